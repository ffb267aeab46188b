/- Regions that draw their order: the theorem. -/
import Derived.Test.YtaieimjeffedhaaSxO
set_option linter.unusedSimpArgs false
set_option linter.unusedVariables false
set_option linter.unnecessarySimpa false
namespace Go.Sx
open Go

section
variable {P : Program} {w : World} {ρ : Env} {R : Type} {r : R}

def tmAt (L : List DR) (tmN : TM) (j : Nat) : TM := match L[j]? with | some d => d.tm | none => tmN
def hAt (L : List DR) (HN : Heap) (j : Nat) : Heap := match L[j]? with | some d => d.H | none => HN

theorem chain_zero : ∀ {L : List DR} {tm : TM} {H : Heap} {N : Nat} {tmN : TM} {HN : Heap} {NN : Nat}, Chain L tm H N tmN HN NN → tmAt L tmN 0 = tm ∧ hAt L HN 0 = H
  | [], _, _, _, _, _, _, ⟨h1, h2, _⟩ => ⟨h1, h2⟩
  | d :: L, _, _, _, _, _, _, ⟨h1, h2, _⟩ => ⟨h1, h2⟩
theorem chain_next : ∀ {L : List DR} {tm : TM} {H : Heap} {N : Nat} {tmN : TM} {HN : Heap} {NN : Nat}, Chain L tm H N tmN HN NN → ∀ (j : Nat) (d : DR), L[j]? = some d → tmAt L tmN j = d.tm ∧ hAt L HN j = d.H ∧ tmAt L tmN (j + 1) = d.tm' ∧ hAt L HN (j + 1) = d.H.upd d.e
  | [], _, _, _, _, _, _, _, j, d, h => by simp at h
  | d0 :: L, tm, H, N, tmN, HN, NN, ⟨h1, h2, h3, h4⟩, 0, d, h => by
    simp at h; subst h
    obtain ⟨q1, q2⟩ := chain_zero h4
    refine ⟨rfl, rfl, ?_, ?_⟩
    · have : tmAt (d0 :: L) tmN 1 = tmAt L tmN 0 := rfl
      rw [this, q1]
    · have : hAt (d0 :: L) HN 1 = hAt L HN 0 := rfl
      rw [this, q2, h2]
  | d0 :: L, tm, H, N, tmN, HN, NN, ⟨h1, h2, h3, h4⟩, j + 1, d, h => chain_next h4 j d (by simpa using h)
theorem chain_N : ∀ {L : List DR} {tm : TM} {H : Heap} {N : Nat} {tmN : TM} {HN : Heap} {NN : Nat}, Chain L tm H N tmN HN NN → (∀ (j : Nat) (d : DR), L[j]? = some d → d.N ≤ d.N') → N ≤ NN ∧ ∀ (j : Nat) (d : DR), L[j]? = some d → N ≤ d.N ∧ d.N' ≤ NN
  | [], _, _, _, _, _, _, ⟨_, _, h⟩, _ => ⟨by omega, by simp⟩
  | d0 :: L, tm, H, N, tmN, HN, NN, ⟨h1, h2, h3, h4⟩, hN => by
    obtain ⟨q1, q2⟩ := chain_N h4 (fun j d h => hN (j + 1) d (by simpa using h))
    have := hN 0 d0 rfl
    refine ⟨by omega, fun j d h => ?_⟩
    cases j with
    | zero => simp at h; subst h; omega
    | succ j => have := q2 j d (by simpa using h); omega
theorem chain_order : ∀ {L : List DR} {tm : TM} {H : Heap} {N : Nat} {tmN : TM} {HN : Heap} {NN : Nat}, Chain L tm H N tmN HN NN → (∀ (j : Nat) (d : DR), L[j]? = some d → d.N ≤ d.N') → ∀ (i j : Nat) (di dj : DR), L[i]? = some di → L[j]? = some dj → i < j → di.N' ≤ dj.N
  | [], _, _, _, _, _, _, _, _, i, j, di, dj, h, _, _ => by simp at h
  | d0 :: L, tm, H, N, tmN, HN, NN, ⟨h1, h2, h3, h4⟩, hN, i, j, di, dj, hi, hj, hlt => by
    obtain ⟨j, rfl⟩ : ∃ k, j = k + 1 := ⟨j - 1, by omega⟩
    cases i with
    | zero =>
      simp at hi; subst hi
      exact (((chain_N h4 (fun j d h => hN (j + 1) d (by simpa using h))).2 j dj (by simpa using hj)).1)
    | succ i => exact chain_order h4 (fun j d h => hN (j + 1) d (by simpa using h)) i j di dj (by simpa using hi) (by simpa using hj) (by omega)

/-- What is said of the machine when the operations of D are done. -/
structure DInv (ops : Array Oper) (nt : Nat) (L : List DR) (tmN : TM) (HN : Heap) (ρ0 : Env) (H0 : Heap) (N0 NN : Nat) (w0 : World) (a0 : Act) (D : Nat → Prop) (ρ : Env) (HD : Heap) (a : Act) (w : World) : Prop where
  size : a.tmps.size = nt
  defers : a.defers = a0.defers
  T : ∀ (j t : Nat), j ≤ L.length → (∀ (i : Nat) (d : DR), L[i]? = some d → d.o.dst = some t → (D i ↔ i < j)) → VR ρ ((tmAt L tmN j).get t) (a.tmps.getD t undef)
  M : ∀ (j x : Nat), j ≤ L.length → (∀ (i : Nat) (d : DR), L[i]? = some d → x ∈ namesOf d.e → (D i ↔ i < j)) → HD.find x = (hAt L HN j).find x
  st : Step ρ0 H0 N0 w0 ρ HD NN w
  fr : ∀ (i : Nat) (d : DR), L[i]? = some d → ¬ D i → Fresh ρ d.N d.N'

/-- All that is known of the executor's way. -/
structure Way (P : Program) (nt : Nat) (ops : Array Oper) (an : List Nat) (L : List DR) (tm : TM) (H : Heap) (N : Nat) (tmN : TM) (HN : Heap) (NN : Nat) : Prop where
  len : L.length = ops.size
  anc : an = ancsOf ops.toList []
  chain : Chain L tm H N tmN HN NN
  ok : ∀ (k : Nat) (d : DR), L[k]? = some d → d.Ok P nt ops an k
  cross : ∀ (k k' : Nat) (d d' : DR), L[k]? = some d → L[k']? = some d' → k' < k → unord an k' k = true → (∀ x b, d.F.find x = some b → x ∉ namesOf d'.e) ∧ (∀ x ∈ namesOf d.e, d'.F.find x = none)

variable {nt : Nat} {ops : Array Oper} {an : List Nat} {L : List DR} {tm : TM} {H : Heap} {N : Nat} {tmN : TM} {HN : Heap} {NN : Nat}

theorem Way.oper (W : Way P nt ops an L tm H N tmN HN NN) {j : Nat} (hj : j < ops.size) : ∃ d, L[j]? = some d ∧ ops.toList[j]? = some d.o := by
  have hl : j < L.length := by rw [W.len]; exact hj
  exact ⟨L[j], List.getElem?_eq_getElem hl, (W.ok j _ (List.getElem?_eq_getElem hl)).ho⟩
theorem Way.edges (W : Way P nt ops an L tm H N tmN HN NN) (j : Nat) (o : Oper) (h : ops.toList[j]? = some o) : edgesOk j o.after.toList = true := by
  have hlt := (List.getElem?_eq_some_iff.1 h).1
  obtain ⟨d, hd, ho⟩ := W.oper (j := j) (by simpa using hlt)
  rw [h] at ho; simp at ho; subst ho
  exact (W.ok j d hd).edge

/-- D holds with each operation all that its edges lead to. -/
def Shut (ops : Array Oper) (D : Nat → Prop) : Prop := ∀ (j : Nat) (o : Oper), ops.toList[j]? = some o → D j → ∀ e ∈ o.after.toList, Region.binds .any e = true → D e.on

theorem unord_of (W : Way P nt ops an L tm H N tmN HN NN) {D : Nat → Prop} (hD : Shut ops D) {m i : Nat} (hm : m < ops.size) (hi : i < ops.size) (hready : ∀ o, ops.toList[m]? = some o → ∀ e ∈ o.after.toList, Region.binds .any e = true → D e.on) (hmD : ¬ D m) :
    -- who stands ahead of m is done
    (Nat.testBit (an.getD m 0) i = true → D i ∧ i < m) ∧ (D i → Nat.testBit (an.getD i 0) m = false) := by
  obtain ⟨d, hd, ho⟩ := W.oper hm
  obtain ⟨di, hdi, hoi⟩ := W.oper hi
  have he := W.anc
  constructor
  · intro h
    rw [he] at h
    obtain ⟨e, hme, hb, hlt, hh⟩ := anc_step ho (W.edges m _ ho) h
    have hde := hready _ ho e hme hb
    refine ⟨?_, anc_lt W.edges m i _ ho h⟩
    rcases hh with rfl | hh
    · exact hde
    · have : e.on < ops.toList.length := by have := (List.getElem?_eq_some_iff.1 ho).1; omega
      exact anc_in W.edges hD e.on i _ (List.getElem?_eq_getElem this) hde hh
  · intro hDi
    cases hq : Nat.testBit (an.getD i 0) m with
    | false => rfl
    | true =>
      rw [he] at hq
      exact absurd (anc_in W.edges hD i m _ hoi hDi hq) hmD

/-- What an operation looks at is there. -/
theorem DInv.seen (W : Way P nt ops an L tm H N tmN HN NN) {ρ0 : Env} {w0 : World} {a0 : Act} {D : Nat → Prop} {HD : Heap} {a : Act} (I : DInv ops nt L tmN HN ρ0 H N NN w0 a0 D ρ HD a w) (hD : Shut ops D)
    {m : Nat} {d : DR} (hm : L[m]? = some d) (hmD : ¬ D m) (hready : ∀ e ∈ d.o.after.toList, Region.binds .any e = true → D e.on) : ∀ x b, d.F.find x = some b → HD.find x = some b := by
  have K := W.ok m d hm
  have hml : m < ops.size := by rw [← W.len]; exact (List.getElem?_eq_some_iff.1 hm).1
  have hNs : ∀ (j : Nat) (d : DR), L[j]? = some d → d.N ≤ d.N' := fun j d h => (W.ok j d h).NN
  obtain ⟨hc1, hc2, hc3, hc4⟩ := chain_next W.chain m d hm
  have hrange := (chain_N W.chain hNs).2 m d hm
  have ready' : ∀ o, ops.toList[m]? = some o → ∀ e ∈ o.after.toList, Region.binds .any e = true → D e.on := by
    intro o ho; rw [K.ho] at ho; simp at ho; subst ho; exact hready
  have hlt : ∀ (i : Nat) (di : DR), L[i]? = some di → i < ops.size := fun i di h => by rw [← W.len]; exact (List.getElem?_eq_some_iff.1 h).1
  -- an operation that is done and no edge orders against m, or one that is not
  have done_of : ∀ (i : Nat) (di : DR), L[i]? = some di → (unord an i m = false ∨ i = m) → (D i ↔ i < m) := by
    intro i di hdi hu
    obtain ⟨h1, h2⟩ := unord_of W hD hml (hlt i di hdi) ready' hmD
    rcases hu with hu | rfl
    · simp only [unord, Bool.and_eq_false_iff, Bool.not_eq_false'] at hu
      constructor
      · intro hDi
        rcases hu with (hu | hu) | hu
        · rw [beq_true] at hu; subst hu; exact absurd hDi hmD
        · exact (h1 hu).2
        · rw [h2 hDi] at hu; simp at hu
      · intro him
        rcases hu with (hu | hu) | hu
        · rw [beq_true] at hu; omega
        · exact (h1 hu).1
        · have := anc_lt W.edges i m _ (W.ok i di hdi).ho (by rw [← W.anc]; exact hu)
          omega
    · constructor
      · intro h; exact absurd h hmD
      · intro h; omega
  have unsym : ∀ i j, unord an i j = unord an j i := by
    intro i j
    simp only [unord]
    rw [show Nat.beq i j = Nat.beq j i by
      by_cases h : i = j
      · subst h; rfl
      · rw [beq_false.2 h, beq_false.2 (Ne.symm h)]]
    cases Nat.beq j i <;> cases Nat.testBit (an.getD j 0) i <;> cases Nat.testBit (an.getD i 0) j <;> rfl
  -- the temporaries
  have hT : Tms ρ nt d.tmF a := by
    refine ⟨I.size, fun t => ?_⟩
    rcases K.tmf t with h | ⟨h1, h2⟩
    · rw [h]; simp [VR]
    · rw [h2, ← hc1]
      refine I.T m t (by rw [W.len]; omega) fun i di hdi hdst => done_of i di hdi ?_
      cases hu : unord an i m with
      | false => exact .inl rfl
      | true => exact absurd hdst (h1 i di.o (W.ok i di hdi).ho hu)
  -- memory
  have seen : ∀ x b, d.F.find x = some b → HD.find x = some b := by
    intro x b hx
    rw [← K.fH x b hx, ← hc2]
    refine I.M m x (by rw [W.len]; omega) fun i di hdi hxi => ?_
    by_cases hu : unord an i m = false ∨ i = m
    · exact done_of i di hdi hu
    · exfalso
      simp only [not_or, Bool.not_eq_false] at hu
      rcases Nat.lt_or_ge i m with him | him
      · exact (W.cross m i d di hm hdi him hu.1).1 x b hx hxi
      · have := (W.cross i m di d hdi hm (by omega) (by rw [unsym]; exact hu.1)).2 x hxi
        rw [hx] at this; simp at this
  exact seen

/-- One operation more. -/
theorem DInv.step (W : Way P nt ops an L tm H N tmN HN NN) {ρ0 : Env} {w0 : World} {a0 : Act} {D : Nat → Prop} {HD : Heap} {a : Act} (I : DInv ops nt L tmN HN ρ0 H N NN w0 a0 D ρ HD a w) (hD : Shut ops D)
    {m : Nat} {d : DR} (hm : L[m]? = some d) (hmD : ¬ D m) (hready : ∀ e ∈ d.o.after.toList, Region.binds .any e = true → D e.on) :
    OpDo P ops d.o ρ d.F d.N w d.v d.e d.N' a ∧
    ∀ (ρ' : Env) (w' : World) (v' : Value), Step ρ d.F d.N w ρ' (d.F.upd d.e) d.N' w' → VR ρ' d.v v' →
      DInv ops nt L tmN HN ρ0 H N NN w0 a0 (fun i => D i ∨ i = m) ρ' (HD.upd d.e) (a.put d.o.dst v') w' := by
  have K := W.ok m d hm
  have hml : m < ops.size := by rw [← W.len]; exact (List.getElem?_eq_some_iff.1 hm).1
  have hNs : ∀ (j : Nat) (d : DR), L[j]? = some d → d.N ≤ d.N' := fun j d h => (W.ok j d h).NN
  obtain ⟨hc1, hc2, hc3, hc4⟩ := chain_next W.chain m d hm
  have hrange := (chain_N W.chain hNs).2 m d hm
  have ready' : ∀ o, ops.toList[m]? = some o → ∀ e ∈ o.after.toList, Region.binds .any e = true → D e.on := by
    intro o ho; rw [K.ho] at ho; simp at ho; subst ho; exact hready
  have hlt : ∀ (i : Nat) (di : DR), L[i]? = some di → i < ops.size := fun i di h => by rw [← W.len]; exact (List.getElem?_eq_some_iff.1 h).1
  -- an operation that is done and no edge orders against m, or one that is not
  have done_of : ∀ (i : Nat) (di : DR), L[i]? = some di → (unord an i m = false ∨ i = m) → (D i ↔ i < m) := by
    intro i di hdi hu
    obtain ⟨h1, h2⟩ := unord_of W hD hml (hlt i di hdi) ready' hmD
    rcases hu with hu | rfl
    · simp only [unord, Bool.and_eq_false_iff, Bool.not_eq_false'] at hu
      constructor
      · intro hDi
        rcases hu with (hu | hu) | hu
        · rw [beq_true] at hu; subst hu; exact absurd hDi hmD
        · exact (h1 hu).2
        · rw [h2 hDi] at hu; simp at hu
      · intro him
        rcases hu with (hu | hu) | hu
        · rw [beq_true] at hu; omega
        · exact (h1 hu).1
        · have := anc_lt W.edges i m _ (W.ok i di hdi).ho (by rw [← W.anc]; exact hu)
          omega
    · constructor
      · intro h; exact absurd h hmD
      · intro h; omega
  have unsym : ∀ i j, unord an i j = unord an j i := by
    intro i j
    simp only [unord]
    rw [show Nat.beq i j = Nat.beq j i by
      by_cases h : i = j
      · subst h; rfl
      · rw [beq_false.2 h, beq_false.2 (Ne.symm h)]]
    cases Nat.beq j i <;> cases Nat.testBit (an.getD j 0) i <;> cases Nat.testBit (an.getD i 0) j <;> rfl
  -- the temporaries
  have hT : Tms ρ nt d.tmF a := by
    refine ⟨I.size, fun t => ?_⟩
    rcases K.tmf t with h | ⟨h1, h2⟩
    · rw [h]; simp [VR]
    · rw [h2, ← hc1]
      refine I.T m t (by rw [W.len]; omega) fun i di hdi hdst => done_of i di hdi ?_
      cases hu : unord an i m with
      | false => exact .inl rfl
      | true => exact absurd hdst (h1 i di.o (W.ok i di hdi).ho hu)
  -- memory
  have seen : ∀ x b, d.F.find x = some b → HD.find x = some b := by
    intro x b hx
    rw [← K.fH x b hx, ← hc2]
    refine I.M m x (by rw [W.len]; omega) fun i di hdi hxi => ?_
    by_cases hu : unord an i m = false ∨ i = m
    · exact done_of i di hdi hu
    · exfalso
      simp only [not_or, Bool.not_eq_false] at hu
      rcases Nat.lt_or_ge i m with him | him
      · exact (W.cross m i d di hm hdi him hu.1).1 x b hx hxi
      · have := (W.cross i m di d hdi hm (by omega) (by rw [unsym]; exact hu.1)).2 x hxi
        rw [hx] at this; simp at this
  have hinv : Inv ρ d.F w := I.st.inv.sub seen
  have hfr : Fresh ρ d.N d.N' := I.fr m d hm hmD
  refine ⟨K.sound ρ a w hT hinv hfr, fun ρ' w' v' hst hv => ?_⟩
  have hle := hst.le hfr
  have hfull : Step ρ HD d.N w ρ' (HD.upd d.e) d.N' w' := hst.frame hfr I.st.inv seen K.nm
  have hput : ∀ t, (a.put d.o.dst v').tmps.getD t undef = if d.o.dst = some t then v' else a.tmps.getD t undef := by
    intro t
    cases hd : d.o.dst with
    | none => simp [Act.put]
    | some q =>
      have := K.dst
      rw [hd] at this
      simp only [okD, blt_true] at this
      simp only [Act.put]
      rw [getD_put _ _ _ _ (by rw [I.size]; exact this)]
      by_cases h : t = q
      · subst h; simp
      · simp [h, Ne.symm h]
  constructor
  · cases hd : d.o.dst <;> simp [Act.put, I.size]
  · rw [put_defers]; exact I.defers
  · intro j t hj hw
    rw [hput]
    by_cases hdt : d.o.dst = some t
    · rw [if_pos hdt]
      have hmj : m < j := (hw m d hm hdt).1 (.inr rfl)
      -- no later one that is done writes it
      have none_later : ∀ (i : Nat) (di : DR), L[i]? = some di → m < i → i < j → di.o.dst ≠ some t := by
        intro i di hdi h1 h2 hdi'
        have hDi : D i := ((hw i di hdi hdi').2 h2).resolve_right (by omega)
        cases hu : unord an i m with
        | true => exact K.dsts i di.o t (W.ok i di hdi).ho hu hdt hdi'
        | false =>
          have := (done_of i di hdi (.inl hu)).1 hDi
          omega
      have key : ∀ k, m + 1 + k ≤ j → (tmAt L tmN (m + 1 + k)).get t = .any ∨ (tmAt L tmN (m + 1 + k)).get t = d.v := by
        intro k
        induction k with
        | zero =>
          intro _
          rw [Nat.add_zero, hc3]
          rcases K.tms t with h | ⟨_, h⟩ | ⟨h, _⟩
          · exact .inl h
          · exact .inr h
          · exact absurd hdt h
        | succ k ih =>
          intro hk
          have hlen : m + 1 + k < L.length := by omega
          obtain ⟨q1, q2, q3, q4⟩ := chain_next W.chain (m + 1 + k) _ (List.getElem?_eq_getElem hlen)
          have ih := ih (by omega)
          rw [q1] at ih
          rw [show m + 1 + (k + 1) = m + 1 + k + 1 by omega, q3]
          rcases (W.ok _ _ (List.getElem?_eq_getElem hlen)).tms t with h | ⟨h, _⟩ | ⟨_, h⟩
          · exact .inl h
          · exact absurd h (none_later _ _ (List.getElem?_eq_getElem hlen) (by omega) (by omega))
          · rw [h]; exact ih
      have := key (j - (m + 1)) (by omega)
      rw [show m + 1 + (j - (m + 1)) = j by omega] at this
      rcases this with h | h
      · rw [h]; simp [VR]
      · rw [h]; exact hv
    · rw [if_neg hdt]
      refine VR_mono hle _ _ (I.T j t hj fun i di hdi hdi' => ?_)
      have := hw i di hdi hdi'
      constructor
      · intro h; exact this.1 (.inl h)
      · intro h
        rcases this.2 h with h' | h'
        · exact h'
        · subst h'; rw [hm] at hdi; simp at hdi; subst hdi; exact absurd hdi' hdt
  · intro j x hj hw
    by_cases hxe : x ∈ namesOf d.e
    · have hmj : m < j := (hw m d hm hxe).1 (.inr rfl)
      have none_later : ∀ (i : Nat) (di : DR), L[i]? = some di → m < i → i < j → x ∉ namesOf di.e := by
        intro i di hdi h1 h2 hxi
        have hDi : D i := ((hw i di hdi hxi).2 h2).resolve_right (by omega)
        cases hu : unord an i m with
        | false => have := (done_of i di hdi (.inl hu)).1 hDi; omega
        | true =>
          obtain ⟨c1, c2⟩ := W.cross i m di d hdi hm h1 (by rw [unsym]; exact hu)
          rcases K.nm x hxe with h3 | ⟨h3, h4⟩
          · exact h3 (c2 x hxi)
          · rcases (W.ok i di hdi).nm x hxi with h5 | ⟨h5, h6⟩
            · cases hf : di.F.find x with
              | none => exact h5 hf
              | some b => exact c1 x b hf hxe
            · have := chain_order W.chain hNs m i d di hm hdi h1
              omega
      have key : ∀ k, m + 1 + k ≤ j → (hAt L HN (m + 1 + k)).find x = (d.H.upd d.e).find x := by
        intro k
        induction k with
        | zero => intro _; rw [Nat.add_zero, hc4]
        | succ k ih =>
          intro hk
          have hlen : m + 1 + k < L.length := by omega
          obtain ⟨q1, q2, q3, q4⟩ := chain_next W.chain (m + 1 + k) _ (List.getElem?_eq_getElem hlen)
          have ih := ih (by omega)
          rw [q2] at ih
          rw [show m + 1 + (k + 1) = m + 1 + k + 1 by omega, q4, upd_find_other (none_later _ _ (List.getElem?_eq_getElem hlen) (by omega) (by omega))]
          exact ih
      have := key (j - (m + 1)) (by omega)
      rw [show m + 1 + (j - (m + 1)) = j by omega] at this
      rw [this]
      exact upd_find_mem hxe
    · rw [upd_find_other hxe]
      refine I.M j x hj fun i di hdi hdi' => ?_
      have := hw i di hdi hdi'
      constructor
      · intro h; exact this.1 (.inl h)
      · intro h
        rcases this.2 h with h' | h'
        · exact h'
        · subst h'; rw [hm] at hdi; simp at hdi; subst hdi; exact absurd hdi' hxe
  · exact I.st.trans' (hfull.widen hrange.1 hrange.2)
  · intro i di hdi hDi x hx hx'
    simp only [not_or] at hDi
    rw [hst.ext x ?_]
    · exact I.fr i di hdi hDi.1 x hx hx'
    · intro ⟨h1, h2⟩
      rcases Nat.lt_or_ge i m with h | h
      · have := chain_order W.chain hNs i m di d hdi hm h; omega
      · have := chain_order W.chain hNs m i d di hm hdi (by omega); omega

/-! all orders -/
def doneB (listed : Array Bool) (i : Nat) : Prop := listed.getD i false = true
theorem ready_mem {listed : Array Bool} {i : Nat} : i ∈ Region.ready .any ops listed ↔ i < ops.size ∧ listed.getD i true = false ∧ ∃ o, ops[i]? = some o ∧ ∀ e ∈ o.after.toList, Region.binds .any e = true → listed.getD e.on false = true := by
  unfold Region.ready
  simp only [List.mem_filter, List.mem_range, Bool.and_eq_true, Bool.not_eq_true']
  constructor
  · rintro ⟨h1, h2, h3⟩
    cases ho : ops[i]? with
    | none => simp [ho] at h3
    | some o =>
      refine ⟨h1, h2, o, rfl, fun e he hb => ?_⟩
      simp only [ho, Option.map_some, Option.getD_some] at h3
      rw [← Array.all_toList, List.all_eq_true] at h3
      have := h3 e he
      simpa [hb] using this
  · rintro ⟨h1, h2, o, ho, h3⟩
    refine ⟨h1, h2, ?_⟩
    simp only [ho, Option.map_some, Option.getD_some]
    rw [← Array.all_toList, List.all_eq_true]
    intro e he
    cases hb : Region.binds .any e with
    | false => simp
    | true => simp [h3 e he hb]

theorem way_any (W : Way P nt ops an L tm H N tmN HN NN) {ρ0 : Env} {w0 : World} {a0 : Act} {Q : Exit → Act → World → Prop} (hQ : ∀ a w, CodePost ρ0 nt H N w0 tmN HN NN a0 a w → Q .normal a w) :
    ∀ (fuel : Nat) (listed : Array Bool) (ρ : Env) (HD : Heap) (a : Act) (w : World), listed.size = ops.size → ((List.range ops.size).filter fun i => !listed.getD i true).length = fuel → Shut ops (doneB listed) → DInv ops nt L tmN HN ρ0 H N NN w0 a0 (doneB listed) ρ HD a w →
      wpAny P .any ops Q fuel listed a w := by
  intro fuel
  have finish : ∀ (listed : Array Bool) (ρ : Env) (HD : Heap) (a : Act) (w : World), listed.size = ops.size → Shut ops (doneB listed) → DInv ops nt L tmN HN ρ0 H N NN w0 a0 (doneB listed) ρ HD a w → Region.ready .any ops listed = [] → Q .normal a w := by
    intro listed ρ HD a w hs hD I hr
    -- all are done
    have all : ∀ i, i < ops.size → doneB listed i := by
      intro i
      induction i using Nat.strongRecOn with
      | _ i ih =>
        intro hi
        cases hq : listed.getD i false with
        | true => exact hq
        | false =>
          exfalso
          obtain ⟨d, hd, ho⟩ := W.oper hi
          have : i ∈ Region.ready .any ops listed := by
            rw [ready_mem]
            refine ⟨hi, ?_, d.o, by simpa using ho, fun e he hb => ?_⟩
            · rw [Array.getD_eq_getD_getElem?] at hq ⊢
              rw [Array.getElem?_eq_getElem (by omega)] at hq ⊢
              simpa using hq
            · have := edgesOk_iff (W.edges i _ ho) e he hb
              exact ih e.on this (by omega)
          rw [hr] at this; simp at this
    have hall : ∀ (i : Nat) (d : DR), L[i]? = some d → (doneB listed i ↔ i < L.length) := by
      intro i d h
      have hlt := (List.getElem?_eq_some_iff.1 h).1
      exact ⟨fun _ => hlt, fun _ => all i (by rw [← W.len]; exact hlt)⟩
    have e1 : tmAt L tmN L.length = tmN := by simp [tmAt]
    have e2 : hAt L HN L.length = HN := by simp [hAt]
    refine hQ a w ⟨ρ, I.st.congr (fun x => ?_), ⟨I.size, fun t => ?_⟩, I.defers⟩
    · rw [I.M L.length x (Nat.le_refl _) (fun i d h _ => hall i d h), e2]
    · have := I.T L.length t (Nat.le_refl _) (fun i d h _ => hall i d h)
      rw [e1] at this; exact this
  induction fuel with
  | zero =>
    intro listed ρ HD a w hs hf hD I
    have hr : Region.ready .any ops listed = [] := by
      have h0 : ((List.range ops.size).filter fun i => !listed.getD i true) = [] := List.length_eq_zero_iff.1 hf
      apply List.eq_nil_iff_forall_not_mem.2
      intro i hi
      rw [ready_mem] at hi
      have : i ∈ ((List.range ops.size).filter fun i => !listed.getD i true) := List.mem_filter.2 ⟨List.mem_range.2 hi.1, by rw [hi.2.1]; rfl⟩
      rw [h0] at this; simp at this
    exact ⟨hr, finish listed ρ HD a w hs hD I hr⟩
  | succ fuel ih =>
    intro listed ρ HD a w hs hf hD I
    refine ⟨finish listed ρ HD a w hs hD I, fun m hm => ?_⟩
    rw [ready_mem] at hm
    obtain ⟨hlt, hml, o, ho, hedge⟩ := hm
    obtain ⟨d, hd, ho2⟩ := W.oper hlt
    have hoe : o = d.o := by
      have : ops.toList[m]? = some o := by simpa using ho
      rw [this] at ho2; simpa using ho2
    subst hoe
    have hnD : ¬ doneB listed m := by
      unfold doneB
      rw [Array.getD_eq_getD_getElem?] at hml ⊢
      rw [Array.getElem?_eq_getElem (by omega)] at hml ⊢
      simp at hml ⊢; exact hml
    obtain ⟨hdo, hnext⟩ := I.step W hD hd hnD hedge
    have hset : ∀ i, doneB (listed.setIfInBounds m true) i ↔ (doneB listed i ∨ i = m) := by
      intro i
      unfold doneB
      simp only [Array.getD_eq_getD_getElem?]
      by_cases h : i = m
      · subst h; simp [hs, hlt]
      · rw [Array.getElem?_setIfInBounds_ne (by omega)]; simp [h]
    have hcount : ((List.range ops.size).filter fun i => !(listed.setIfInBounds m true).getD i true).length = fuel := by
      have key : ∀ (n : Nat), n ≤ ops.size → ((List.range n).filter fun i => !listed.getD i true).length = ((List.range n).filter fun i => !(listed.setIfInBounds m true).getD i true).length + (if m < n then 1 else 0) := by
        intro n
        induction n with
        | zero => intro _; simp
        | succ n ihn =>
          intro hn
          have ihn := ihn (by omega)
          simp only [List.range_succ, List.filter_append, List.length_append, ihn]
          by_cases hmn : n = m
          · subst hmn
            have e1 : (!listed.getD n true) = true := by rw [hml]; rfl
            have e2 : (!(listed.setIfInBounds n true).getD n true) = false := by
              simp [Array.getD_eq_getD_getElem?, hs, hlt]
            simp only [List.filter_cons, e1, e2, if_true, List.filter_nil, List.length_cons, List.length_nil, Bool.false_eq_true, if_false]
            simp
          · have e : (listed.setIfInBounds m true).getD n true = listed.getD n true := by
              simp only [Array.getD_eq_getD_getElem?]
              rw [Array.getElem?_setIfInBounds_ne (by omega)]
            have : (m < n + 1) ↔ (m < n) := by omega
            simp only [List.filter_cons, e, List.filter_nil, this]
            split <;> split <;> simp <;> omega
      have := key ops.size (Nat.le_refl _)
      rw [hf, if_pos hlt] at this
      omega
    have hshut : Shut ops (doneB (listed.setIfInBounds m true)) := by
      intro j o hj hdj e he hb
      rw [hset] at hdj ⊢
      rcases hdj with h | rfl
      · exact .inl (hD j o hj h e he hb)
      · left
        rw [hj] at ho2; simp at ho2; subst ho2
        exact hedge e he hb
    have goOn : ∀ (ρ' : Env) (HD' : Heap) (a' : Act) (w' : World), DInv ops nt L tmN HN ρ0 H N NN w0 a0 (fun i => doneB listed i ∨ i = m) ρ' HD' a' w' → wpAny P .any ops Q fuel (listed.setIfInBounds m true) a' w' := by
      intro ρ' HD' a' w' I'
      refine ih _ ρ' HD' a' w' (by simp [hs]) hcount hshut ?_
      have : doneB (listed.setIfInBounds m true) = (fun i => doneB listed i ∨ i = m) := by funext i; exact propext (hset i)
      rw [this]; exact I'
    have hmo : ops[m]? = some d.o := ho
    unfold wpOp
    rw [hmo]
    simp only
    cases hw : Region.wanted d.o (yielded ops a.tmps) with
    | true =>
      rw [if_pos rfl]
      left
      refine does_wp (hdo.1 hw) ?_
      rintro v' w' ⟨ρ', hst, hv⟩
      exact goOn ρ' _ _ _ (hnext ρ' w' v' hst hv)
    | false =>
      rw [if_neg (by simp)]
      obtain ⟨h1, h2, h3⟩ := hdo.2 hw
      refine goOn ρ _ _ _ (hnext ρ w undef ?_ ?_)
      · rw [h2, h3]
        have hi : Inv ρ d.F w := by
          have K := W.ok m d hd
          exact I.st.inv.sub (fun x b hx => I.seen W hD hd hnD hedge x b hx)
        exact Step.refl hi
      · rw [h1]; exact VR_undef

theorem drawA_sound {C : Oracle} (hC : Snd P C) {fl : Fl} : DSnd P nt (drawA P fl nt C) := by
  intro R ops tm H N K r h
  unfold drawA at h
  cases hm : P.follows .mixedOrders with
  | false => rw [hm] at h; simp at h
  | true =>
    rw [hm] at h
    simp only [cond_true] at h
    obtain ⟨L, tmN, HN, NN, hk, hlen, hch, hok, hrec, hcross⟩ := drawGo_trace hC (j := 0) rfl h
    have W : Way P nt ops (ancsOf ops.toList []) L tm H N tmN HN NN := by
      refine ⟨by simpa using hlen, rfl, hch, fun k d hd => by simpa using hok k d hd, fun k k' d d' h1 h2 h3 h4 => hcross k k' d d' h1 h2 h3 (by simpa using h4)⟩
    have hNs : ∀ (j : Nat) (d : DR), L[j]? = some d → d.N ≤ d.N' := fun j d h => (W.ok j d h).NN
    have hNN := chain_N W.chain hNs
    refine ⟨tmN, HN, NN, hk, hNN.1, fun ρ a w id ht hi hf => wp_region_any hm ?_⟩
    refine way_any W (ρ0 := ρ) (w0 := w) (a0 := a) (fun a' w' hp => ⟨rfl, hp⟩) ops.size _ ρ H a w.drew (by simp) ?_ ?_ ?_
    · rw [List.filter_eq_self.2]
      · simp
      · intro i hi
        simp at hi
        simp [Array.getD_eq_getD_getElem?, hi]
    · intro j o hj hd
      exfalso
      unfold doneB at hd
      rw [Array.getD_eq_getD_getElem?] at hd
      cases hq : (Array.replicate ops.size false)[j]? with
      | none => rw [hq] at hd; simp at hd
      | some b =>
        rw [hq] at hd
        rw [Array.getElem?_replicate] at hq
        split at hq <;> simp_all
    · have nd : ∀ i, ¬ doneB (Array.replicate ops.size false) i := by
        intro i hd
        unfold doneB at hd
        rw [Array.getD_eq_getD_getElem?] at hd
        cases hq : (Array.replicate ops.size false)[i]? with
        | none => rw [hq] at hd; simp at hd
        | some b =>
          rw [hq] at hd
          rw [Array.getElem?_replicate] at hq
          split at hq <;> simp_all
      obtain ⟨z1, z2⟩ := chain_zero W.chain
      constructor
      · exact ht.1
      · rfl
      · intro j t hj hw
        -- no writer stands ahead
        have key : ∀ k, k ≤ j → VR ρ ((tmAt L tmN k).get t) (a.tmps.getD t undef) := by
          intro k
          induction k with
          | zero => intro _; rw [z1]; exact ht.2 t
          | succ k ih =>
            intro hk
            have hlen : k < L.length := by omega
            obtain ⟨q1, q2, q3, q4⟩ := chain_next W.chain k _ (List.getElem?_eq_getElem hlen)
            have ih := ih (by omega)
            rw [q1] at ih
            rw [q3]
            rcases (W.ok _ _ (List.getElem?_eq_getElem hlen)).tms t with h | ⟨h, _⟩ | ⟨_, h⟩
            · rw [h]; simp [VR]
            · exact absurd ((hw k _ (List.getElem?_eq_getElem hlen) h).2 (by omega)) (nd k)
            · rw [h]; exact ih
        exact key j (Nat.le_refl _)
      · intro j x hj hw
        have key : ∀ k, k ≤ j → (hAt L HN k).find x = H.find x := by
          intro k
          induction k with
          | zero => intro _; rw [z2]
          | succ k ih =>
            intro hk
            have hlen : k < L.length := by omega
            obtain ⟨q1, q2, q3, q4⟩ := chain_next W.chain k _ (List.getElem?_eq_getElem hlen)
            have ih := ih (by omega)
            rw [q2] at ih
            rw [q4, upd_find_other]
            · exact ih
            · intro hx
              exact absurd ((hw k _ (List.getElem?_eq_getElem hlen) hx).2 (by omega)) (nd k)
        exact (key j (Nat.le_refl _)).symm
      · exact (Step.drew hi).widen (Nat.le_refl _) hNN.1
      · intro i d hd _
        exact hf.sub (hNN.2 i d hd).1 (hNN.2 i d hd).2
end
end Go.Sx

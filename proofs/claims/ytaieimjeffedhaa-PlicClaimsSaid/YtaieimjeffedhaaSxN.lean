/- Regions that draw their order: the executor goes through them once, in the order of the text, and sees to it that no other order would answer otherwise. -/
import Derived.Test.YtaieimjeffedhaaSxM
set_option linter.unusedSimpArgs false
set_option linter.unusedVariables false
set_option linter.unnecessarySimpa false
namespace Go.Sx
open Go

/-- Which operations stand ahead of one, by its edges: a number's bits. -/
def ancOf (acc : List Nat) : List Edge → Nat
  | [] => 0
  | e :: r => bif Region.binds .any e then Nat.lor (Nat.lor (2 ^ e.on) (acc.getD e.on 0)) (ancOf acc r) else ancOf acc r
def ancsOf : List Oper → List Nat → List Nat
  | [], acc => acc
  | o :: r, acc => ancsOf r (acc ++ [ancOf acc o.after.toList])
/-- Does no edge say which one comes first? -/
def unord (an : List Nat) (i j : Nat) : Bool := !(Nat.beq i j) && !(Nat.testBit (an.getD j 0) i) && !(Nat.testBit (an.getD i 0) j)

def memN (x : Nat) : List Nat → Bool
  | [] => false
  | y :: l => Nat.beq x y || memN x l
def namesOf : Eff → List Nat
  | [] => []
  | (x, _) :: e => x :: namesOf e

def maskT (an : List Nat) (j : Nat) : List Oper → Nat → TM → TM
  | [], _, tm => tm
  | o :: r, i, tm => maskT an j r (i + 1) (match o.dst with
    | some d => bif unord an i j then tm.set 12 d .any else tm
    | none => tm)
/-- The memory that an operation looks at; none: all. -/
def viewA (op : Op) (tm : TM) : Option (List Nat) :=
  match op with
  | .load _ a | .store _ a _ => match evA tm a with
    | .ptr p => some [p.x]
    | _ => some []
  | .call c => match c.callee with
    | .builtin .append => none
    | .builtin _ => some []
    | _ => none
  | _ => some []
abbrev Recs := List (Nat × List Nat × List Nat)
def hidden (an : List Nat) (j x : Nat) : Recs → Bool
  | [] => false
  | (i, ns, _) :: r => (unord an i j && memN x ns) || hidden an j x r
def inView (x : Nat) : Option (List Nat) → Bool
  | none => true
  | some l => memN x l
def seenH (an : List Nat) (j : Nat) (view : Option (List Nat)) (recs : Recs) : Heap → Heap
  | [] => []
  | (x, b) :: h => bif inView x view && !(hidden an j x recs) then (x, b) :: seenH an j view recs h else seenH an j view recs h
def domH : Heap → List Nat
  | [] => []
  | (x, _) :: h => x :: domH h
def namesOk (F : Heap) (N N' : Nat) : List Nat → Bool
  | [] => true
  | x :: l => ((F.find x).isSome || (Nat.ble N x && Nat.blt x N')) && namesOk F N N' l
def disj : List Nat → List Nat → Bool
  | [], _ => true
  | x :: l, m => !(memN x m) && disj l m
def freeOf (an : List Nat) (j : Nat) (ns : List Nat) : Recs → Bool
  | [] => true
  | (i, _, dom) :: r => (!(unord an i j) || disj ns dom) && freeOf an j ns r
def edgesOk (j : Nat) : List Edge → Bool
  | [] => true
  | e :: r => (!(Region.binds .any e) || Nat.blt e.on j) && edgesOk j r
def dstsOk (an : List Nat) (j : Nat) (d : Option Tmp) : List Oper → Nat → Bool
  | [], _ => true
  | o :: r, i => (!(unord an i j) || match d, o.dst with
    | some x, some y => !(Nat.beq x y)
    | _, _ => true) && dstsOk an j d r (i + 1)

variable {R : Type}

def opE (P : Program) (C : Oracle) (fl : Fl) (nt : Nat) (ops : Array Oper) (o : Oper) (tm : TM) (H : Heap) (N : Nat) (K : Option (Nat × Bool) → AV → Eff → Nat → Option R) : Option R :=
  match o.guard with
  | none => opF P C fl o.op tm H N (K none)
  | some (j, want) => match (ops[j]?).bind (·.dst) with
    | none => none
    | some d => bif Nat.blt d nt then match tm.get d with
      | .bool b => cond b (cond want (opF P C fl o.op (tm.set 12 d (.bool true)) H N (K (some (d, true)))) (K (some (d, true)) (.tup []) [] N))
          (cond want (K (some (d, false)) (.tup []) [] N) (opF P C fl o.op (tm.set 12 d (.bool false)) H N (K (some (d, false)))))
      | .tup [] => K none (.tup []) [] N
      | _ => none
      else none

def learn (g : Option (Nat × Bool)) (tm : TM) : TM := match g with
  | none => tm
  | some (d, b) => tm.set 12 d (.bool b)
def putT (d : Option Tmp) (v : AV) (tm : TM) : TM := match d with
  | none => tm
  | some d => tm.set 12 d v
def okD (nt : Nat) : Option Tmp → Bool
  | none => true
  | some d => Nat.blt d nt

def drawGo (P : Program) (C : Oracle) (fl : Fl) (nt : Nat) (ops : Array Oper) (an : List Nat) : List Oper → Nat → TM → Heap → Nat → Recs → (TM → Heap → Nat → Option R) → Option R
  | [], _, tm, H, N, _, K => K tm H N
  | o :: r, j, tm, H, N, recs, K =>
    bif edgesOk j o.after.toList && okD nt o.dst && dstsOk an j o.dst ops.toList 0 then
      opE P C fl nt ops o (maskT an j ops.toList 0 tm) (seenH an j (viewA o.op (maskT an j ops.toList 0 tm)) recs H) N fun g v e N' =>
        bif namesOk (seenH an j (viewA o.op (maskT an j ops.toList 0 tm)) recs H) N N' (namesOf e) && freeOf an j (namesOf e) recs then
          fT (putT o.dst v (learn g tm)) fun tm1 => fH (H.upd e) fun H1 => drawGo P C fl nt ops an r (j + 1) tm1 H1 N'
            ((j, namesOf e, domH (seenH an j (viewA o.op (maskT an j ops.toList 0 tm)) recs H)) :: recs) K
        else none
    else none

def drawA (P : Program) (fl : Fl) (nt : Nat) (C : Oracle) : DrawA := fun _ ops tm H N K =>
  bif P.follows .mixedOrders then drawGo P C fl nt ops (ancsOf ops.toList []) ops.toList 0 tm H N [] K else none

/-! its laws -/
section
variable {P : Program} {w : World} {ρ : Env} {r : R}

theorem memN_iff {x : Nat} : ∀ {l : List Nat}, memN x l = true ↔ x ∈ l
  | [] => by simp [memN]
  | y :: l => by simp [memN, memN_iff (l := l), beq_true]
theorem namesOf_mem {x : Nat} : ∀ {e : Eff}, x ∈ namesOf e ↔ ∃ b, (x, b) ∈ e
  | [] => by simp [namesOf]
  | (y, b) :: e => by
    simp only [namesOf, List.mem_cons, namesOf_mem (e := e), Prod.mk.injEq]
    constructor
    · rintro (rfl | ⟨c, hc⟩)
      · exact ⟨b, .inl ⟨rfl, rfl⟩⟩
      · exact ⟨c, .inr hc⟩
    · rintro ⟨c, ⟨rfl, rfl⟩ | hc⟩
      · exact .inl rfl
      · exact .inr ⟨c, hc⟩
theorem upd_find_other {x : Nat} : ∀ {e : Eff} {H : Heap}, x ∉ namesOf e → (H.upd e).find x = H.find x
  | [], H, _ => rfl
  | (y, some b) :: e, H, h => by
    simp only [namesOf, List.mem_cons, not_or] at h
    simp only [Heap.upd]
    rw [upd_find_other h.2, find_put, if_neg h.1]
  | (y, none) :: e, H, h => by
    simp only [namesOf, List.mem_cons, not_or] at h
    simp only [Heap.upd]
    rw [upd_find_other h.2, find_del, if_neg h.1]
theorem upd_find_mem {x : Nat} : ∀ {e : Eff} {H H' : Heap}, x ∈ namesOf e → (H.upd e).find x = (H'.upd e).find x
  | [], _, _, h => by simp [namesOf] at h
  | (y, some b) :: e, H, H', h => by
    simp only [Heap.upd]
    by_cases he : x ∈ namesOf e
    · exact upd_find_mem he
    · rw [upd_find_other he, upd_find_other he, find_put, find_put]
      simp only [namesOf, List.mem_cons] at h
      rw [if_pos (h.resolve_right he), if_pos (h.resolve_right he)]
  | (y, none) :: e, H, H', h => by
    simp only [Heap.upd]
    by_cases he : x ∈ namesOf e
    · exact upd_find_mem he
    · rw [upd_find_other he, upd_find_other he, find_del, find_del]
      simp only [namesOf, List.mem_cons] at h
      rw [if_pos (h.resolve_right he), if_pos (h.resolve_right he)]

theorem hidden_false {an : List Nat} {j x : Nat} : ∀ {recs : Recs}, hidden an j x recs = false → ∀ i ns dom, (i, ns, dom) ∈ recs → unord an i j = true → x ∉ ns
  | [], _, _, _, _, h, _ => by simp at h
  | (i', ns', dom') :: r, hh, i, ns, dom, h, hu => by
    simp only [hidden, Bool.or_eq_false_iff, Bool.and_eq_false_iff] at hh
    rcases List.mem_cons.1 h with h | h
    · simp only [Prod.mk.injEq] at h
      obtain ⟨rfl, rfl, rfl⟩ := h
      rcases hh.1 with h1 | h1
      · rw [hu] at h1; simp at h1
      · intro hx; rw [memN_iff.2 hx] at h1; simp at h1
    · exact hidden_false hh.2 i ns dom h hu
theorem seenH_find {an : List Nat} {j : Nat} {view : Option (List Nat)} {recs : Recs} : ∀ {H : Heap} {x : Nat} {b : Blk}, (seenH an j view recs H).find x = some b → H.find x = some b ∧ hidden an j x recs = false
  | [], x, b, h => by simp [seenH, Heap.find] at h
  | (y, c) :: H, x, b, h => by
    simp only [seenH] at h
    cases hc : (inView y view && !(hidden an j y recs)) with
    | true =>
      rw [hc] at h
      simp only [cond_true, Heap.find] at h ⊢
      simp only [Bool.and_eq_true, Bool.not_eq_true'] at hc
      by_cases hy : y = x
      · subst hy
        rw [Nat.beq_refl] at h ⊢
        simp only [cond_true] at h ⊢
        exact ⟨h, hc.2⟩
      · rw [beq_false.2 hy] at h ⊢
        simp only [cond_false] at h ⊢
        exact seenH_find h
    | false =>
      rw [hc] at h
      simp only [cond_false, Heap.find] at h ⊢
      obtain ⟨h1, h2⟩ := seenH_find h
      by_cases hy : y = x
      · subst hy
        -- then the name is not seen at all
        exfalso
        simp only [Bool.and_eq_false_iff, Bool.not_eq_false'] at hc
        rcases hc with hc | hc
        · have : ∀ (H : Heap) (b : Blk), (seenH an j view recs H).find y = some b → inView y view = true := by
            intro H
            induction H with
            | nil => intro b h; simp [seenH, Heap.find] at h
            | cons z H ih =>
              obtain ⟨z, d⟩ := z
              intro b h
              simp only [seenH] at h
              cases hd : (inView z view && !(hidden an j z recs)) with
              | true =>
                rw [hd] at h
                simp only [cond_true, Heap.find] at h
                simp only [Bool.and_eq_true] at hd
                by_cases hz : z = y
                · subst hz; exact hd.1
                · rw [beq_false.2 hz] at h; exact ih b h
              | false => rw [hd] at h; exact ih b h
          rw [this H b h] at hc; simp at hc
        · rw [h2] at hc; simp at hc
      · rw [beq_false.2 hy]; exact ⟨h1, h2⟩
theorem domH_find {H : Heap} {x : Nat} : x ∉ domH H → H.find x = none := by
  induction H with
  | nil => intro _; rfl
  | cons z H ih =>
    obtain ⟨z, b⟩ := z
    intro h
    simp only [domH, List.mem_cons, not_or] at h
    simp only [Heap.find]
    rw [beq_false.2 (Ne.symm h.1)]
    exact ih h.2
theorem namesOk_iff {F : Heap} {N N' : Nat} : ∀ {l : List Nat}, namesOk F N N' l = true → ∀ x ∈ l, F.find x ≠ none ∨ (N ≤ x ∧ x < N')
  | [], _, x, h => by simp at h
  | y :: l, hh, x, h => by
    simp only [namesOk, Bool.and_eq_true, Bool.or_eq_true, ble_true, blt_true] at hh
    rcases List.mem_cons.1 h with rfl | h
    · rcases hh.1 with h1 | h1
      · left; intro hn; rw [hn] at h1; simp at h1
      · exact .inr h1
    · exact namesOk_iff hh.2 x h
theorem disj_iff {m : List Nat} : ∀ {l : List Nat}, disj l m = true → ∀ x ∈ l, x ∉ m
  | [], _, x, h => by simp at h
  | y :: l, hh, x, h => by
    simp only [disj, Bool.and_eq_true, Bool.not_eq_true'] at hh
    rcases List.mem_cons.1 h with rfl | h
    · intro hx; rw [memN_iff.2 hx] at hh; simp at hh
    · exact disj_iff hh.2 x h
theorem freeOf_iff {an : List Nat} {j : Nat} {ns : List Nat} : ∀ {recs : Recs}, freeOf an j ns recs = true → ∀ i ns' dom, (i, ns', dom) ∈ recs → unord an i j = true → ∀ x ∈ ns, x ∉ dom
  | [], _, _, _, _, h, _ => by simp at h
  | (i', n', dom') :: r, hh, i, ns', dom, h, hu => by
    simp only [freeOf, Bool.and_eq_true, Bool.or_eq_true, Bool.not_eq_true'] at hh
    rcases List.mem_cons.1 h with h | h
    · simp only [Prod.mk.injEq] at h
      obtain ⟨rfl, rfl, rfl⟩ := h
      rcases hh.1 with h1 | h1
      · rw [hu] at h1; simp at h1
      · exact disj_iff h1
    · exact freeOf_iff hh.2 i ns' dom h hu
theorem edgesOk_iff {j : Nat} : ∀ {l : List Edge}, edgesOk j l = true → ∀ e ∈ l, Region.binds .any e = true → e.on < j
  | [], _, e, h => by simp at h
  | f :: l, hh, e, h => by
    simp only [edgesOk, Bool.and_eq_true, Bool.or_eq_true, Bool.not_eq_true', blt_true] at hh
    intro hb
    rcases List.mem_cons.1 h with rfl | h
    · rcases hh.1 with h1 | h1
      · rw [hb] at h1; simp at h1
      · exact h1
    · exact edgesOk_iff hh.2 e h hb
theorem dstsOk_iff {an : List Nat} {j : Nat} {d : Tmp} : ∀ {l : List Oper} {i : Nat}, dstsOk an j (some d) l i = true → ∀ k o, l[k]? = some o → unord an (i + k) j = true → o.dst ≠ some d
  | [], _, _, k, o, h, _ => by simp at h
  | o' :: l, i, hh, k, o, h, hu => by
    simp only [dstsOk, Bool.and_eq_true, Bool.or_eq_true, Bool.not_eq_true'] at hh
    cases k with
    | zero =>
      simp at h; subst h
      simp only [Nat.add_zero] at hu
      intro hd
      rcases hh.1 with h1 | h1
      · rw [hu] at h1; simp at h1
      · rw [hd] at h1; simp at h1
    | succ k =>
      exact dstsOk_iff hh.2 k o (by simpa using h) (by rw [show i + 1 + k = i + (k + 1) by omega]; exact hu)
theorem maskT_get {an : List Nat} {j : Nat} : ∀ {l : List Oper} {i : Nat} {tm : TM} (t : Nat), (maskT an j l i tm).get t = .any ∨ ((∀ k o, l[k]? = some o → unord an (i + k) j = true → o.dst ≠ some t) ∧ (maskT an j l i tm).get t = tm.get t)
  | [], i, tm, t => by right; simp [maskT]
  | o :: l, i, tm, t => by
    simp only [maskT]
    have step : ∀ tm' : TM, (tm'.get t = .any ∨ ((unord an i j = true → o.dst ≠ some t) ∧ tm'.get t = tm.get t)) →
        (maskT an j l (i + 1) tm').get t = .any ∨ ((∀ k o', (o :: l)[k]? = some o' → unord an (i + k) j = true → o'.dst ≠ some t) ∧ (maskT an j l (i + 1) tm').get t = tm.get t) := by
      intro tm' h
      rcases maskT_get (l := l) (i := i + 1) (tm := tm') t with h1 | ⟨h1, h2⟩
      · exact .inl h1
      · rcases h with h | ⟨h3, h4⟩
        · left; rw [h2, h]
        · right
          refine ⟨fun k o' hk hu => ?_, by rw [h2, h4]⟩
          cases k with
          | zero => simp at hk; subst hk; exact h3 (by simpa using hu)
          | succ k => exact h1 k o' (by simpa using hk) (by rw [show i + 1 + k = i + (k + 1) by omega]; exact hu)
    apply step
    cases hd : o.dst with
    | none => right; simp
    | some d =>
      simp only
      cases hu : unord an i j with
      | false => right; simp
      | true =>
        simp only [cond_true]
        rcases TM_get_set 12 tm d .any t with h | ⟨h, h'⟩ | ⟨h, h'⟩
        · exact .inl h
        · exact .inl h'
        · exact .inr ⟨fun _ => by simp; exact fun e => h e.symm, h'⟩

theorem testBit_lor (a b i : Nat) : Nat.testBit (Nat.lor a b) i = (Nat.testBit a i || Nat.testBit b i) := Nat.testBit_or a b i
theorem ancOf_spec {acc : List Nat} {i : Nat} : ∀ {l : List Edge}, Nat.testBit (ancOf acc l) i = true → ∃ e ∈ l, Region.binds .any e = true ∧ (i = e.on ∨ Nat.testBit (acc.getD e.on 0) i = true)
  | [], h => by simp [ancOf] at h
  | e :: l, h => by
    simp only [ancOf] at h
    cases hb : Region.binds .any e with
    | true =>
      rw [hb] at h
      simp only [cond_true, testBit_lor, Bool.or_eq_true] at h
      rcases h with (h | h) | h
      · rw [Nat.testBit_two_pow] at h
        exact ⟨e, by simp, hb, .inl (of_decide_eq_true h).symm⟩
      · exact ⟨e, by simp, hb, .inr h⟩
      · obtain ⟨e', he, h'⟩ := ancOf_spec h
        exact ⟨e', by simp [he], h'⟩
    | false =>
      rw [hb] at h
      obtain ⟨e', he, h'⟩ := ancOf_spec h
      exact ⟨e', by simp [he], h'⟩
theorem ancsOf_length : ∀ (l : List Oper) (acc : List Nat), (ancsOf l acc).length = acc.length + l.length
  | [], acc => by simp [ancsOf]
  | o :: l, acc => by simp [ancsOf, ancsOf_length l]; omega
theorem ancsOf_prefix : ∀ (l : List Oper) (acc : List Nat) (i : Nat), i < acc.length → (ancsOf l acc)[i]? = acc[i]?
  | [], acc, i, _ => rfl
  | o :: l, acc, i, h => by
    simp only [ancsOf]
    rw [ancsOf_prefix l _ i (by simp; omega), List.getElem?_append_left h]
theorem ancsOf_get : ∀ (l : List Oper) (acc : List Nat) (k : Nat) (o : Oper), l[k]? = some o → ∃ acc', (∀ i, i < acc.length + k → acc'[i]? = (ancsOf l acc)[i]?) ∧ acc'.length = acc.length + k ∧ (ancsOf l acc)[acc.length + k]? = some (ancOf acc' o.after.toList)
  | [], acc, k, o, h => by simp at h
  | o' :: l, acc, 0, o, h => by
    simp at h; subst h
    refine ⟨acc, fun i hi => ?_, rfl, ?_⟩
    · simp only [ancsOf]; rw [ancsOf_prefix l _ i (by simp; omega), List.getElem?_append_left (by omega)]
    · simp only [ancsOf]; rw [ancsOf_prefix l _ _ (by simp)]; simp
  | o' :: l, acc, k + 1, o, h => by
    obtain ⟨acc', h1, h2, h3⟩ := ancsOf_get l (acc ++ [ancOf acc o'.after.toList]) k o (by simpa using h)
    refine ⟨acc', fun i hi => ?_, by simp at h2; omega, ?_⟩
    · rw [h1 i (by simp; omega)]; rfl
    · simp only [ancsOf]
      rw [← h3]; congr 1; simp; omega
/-- Who stands ahead by edges: an edge's end, or who stands ahead of that. -/
theorem anc_step {ops : List Oper} {j : Nat} {o : Oper} (hj : ops[j]? = some o) (he : edgesOk j o.after.toList = true) {i : Nat} (h : Nat.testBit ((ancsOf ops []).getD j 0) i = true) :
    ∃ e ∈ o.after.toList, Region.binds .any e = true ∧ e.on < j ∧ (i = e.on ∨ Nat.testBit ((ancsOf ops []).getD e.on 0) i = true) := by
  obtain ⟨acc', h1, h2, h3⟩ := ancsOf_get ops [] j o hj
  simp only [List.length_nil, Nat.zero_add] at h1 h2 h3
  rw [List.getD_eq_getElem?_getD, h3] at h
  simp only [Option.getD_some] at h
  obtain ⟨e, hm, hb, hh⟩ := ancOf_spec h
  have hlt := edgesOk_iff he e hm hb
  refine ⟨e, hm, hb, hlt, hh.imp id fun hh => ?_⟩
  rw [List.getD_eq_getElem?_getD] at hh ⊢
  rw [← h1 e.on hlt]; exact hh
theorem anc_lt {ops : List Oper} (hall : ∀ (j : Nat) (o : Oper), ops[j]? = some o → edgesOk j o.after.toList = true) : ∀ (j i : Nat) (o : Oper), ops[j]? = some o → Nat.testBit ((ancsOf ops []).getD j 0) i = true → i < j := by
  intro j
  induction j using Nat.strongRecOn with
  | _ j ih =>
    intro i o hj h
    obtain ⟨e, _, _, hlt, hh⟩ := anc_step hj (hall j o hj) h
    rcases hh with rfl | hh
    · exact hlt
    · have hlen := (List.getElem?_eq_some_iff.1 hj).1
      have := ih e.on hlt i ops[e.on] (List.getElem?_eq_getElem (by omega)) hh
      omega
/-- A set of operations that holds with each one all that its edges lead to holds all that stand ahead of it. -/
theorem anc_in {ops : List Oper} (hall : ∀ (j : Nat) (o : Oper), ops[j]? = some o → edgesOk j o.after.toList = true) {D : Nat → Prop} (hD : ∀ (j : Nat) (o : Oper), ops[j]? = some o → D j → ∀ e ∈ o.after.toList, Region.binds .any e = true → D e.on) :
    ∀ (j i : Nat) (o : Oper), ops[j]? = some o → D j → Nat.testBit ((ancsOf ops []).getD j 0) i = true → D i := by
  intro j
  induction j using Nat.strongRecOn with
  | _ j ih =>
    intro i o hj hd h
    obtain ⟨e, hm, hb, hlt, hh⟩ := anc_step hj (hall j o hj) h
    have hde := hD j o hj hd e hm hb
    rcases hh with rfl | hh
    · exact hde
    · have hlen := (List.getElem?_eq_some_iff.1 hj).1
      exact ih e.on hlt i ops[e.on] (List.getElem?_eq_getElem (by omega)) hde hh
end
end Go.Sx

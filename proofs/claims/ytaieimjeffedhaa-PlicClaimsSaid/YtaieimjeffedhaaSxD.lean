/- The executor's memory and the machine's: what holds between them, a step from one to the next, loads, stores, new blocks. -/
import Derived.Test.YtaieimjeffedhaaSxC
import Derived.Calls
set_option linter.unusedSimpArgs false
set_option linter.unusedVariables false
set_option linter.unnecessarySimpa false
namespace Go.Sx
open Go

def BlkRel (ρ : Env) (w : World) (l : Loc) (b : Blk) : Prop :=
  ∃ c e fr, w.heap[l.b]? = some (.cells c e fr) ∧ l.rw = b.rw ∧ (b.rw = true → fr = (0, 0) ∧ l.ext = c.size) ∧
    ∀ o v, (flat b.segs)[o]? = some v → ∃ x, c[l.o + o]? = some x ∧ VR ρ v x

structure Inv (ρ : Env) (H : Heap) (w : World) : Prop where
  blk : ∀ x b, H.find x = some b → ∃ l, ρ x = some l ∧ BlkRel ρ w l b
  inj : ∀ x y bx b' lx ly, H.find x = some bx → H.find y = some b' → ρ x = some lx → ρ y = some ly → lx.rw = true → lx.b = ly.b → x = y

def Fresh (ρ : Env) (N N' : Nat) : Prop := ∀ x, N ≤ x → x < N' → ρ x = none

/-- Is some name that may be written of this block? -/
def Owned (ρ : Env) (H : Heap) (b : Nat) : Prop := ∃ x k l, H.find x = some k ∧ ρ x = some l ∧ l.rw = true ∧ l.b = b

/-- Where a block comes from: an old name's, or a new block. -/
def Prov (ρ : Env) (H : Heap) (size : Nat) (l : Loc) : Prop := (∃ z k lz, H.find z = some k ∧ ρ z = some lz ∧ lz.b = l.b ∧ (l.rw = true → lz.rw = true)) ∨ size ≤ l.b

structure Step (ρ : Env) (H : Heap) (N : Nat) (w : World) (ρ' : Env) (H' : Heap) (N' : Nat) (w' : World) : Prop where
  ext : ∀ x, ¬(N ≤ x ∧ x < N') → ρ' x = ρ x
  os : w'.os = w.os
  tape : w'.tape = w.tape
  output : w'.output = w.output
  size : w.heap.size ≤ w'.heap.size
  block : ∀ b, b < w.heap.size → ¬ Owned ρ H b → w'.heap[b]? = w.heap[b]?
  inv : Inv ρ' H' w'
  prov : ∀ y k l, H'.find y = some k → ρ' y = some l → Prov ρ H w.heap.size l

theorem Step.own {ρ ρ' : Env} {H H' : Heap} {N N' : Nat} {w w' : World} (h : Step ρ H N w ρ' H' N' w') (b : Nat) (ho : Owned ρ' H' b) : Owned ρ H b ∨ w.heap.size ≤ b := by
  obtain ⟨x, k, l, hx, hl, hr, rfl⟩ := ho
  rcases h.prov x k l hx hl with ⟨z, kz, lz, hz, hlz, hb, hrw⟩ | h'
  · exact .inl ⟨z, kz, lz, hz, hlz, hrw hr, hb⟩
  · exact .inr h'

theorem lt_size {w : World} {b : Nat} {o : Obj} (h : w.heap[b]? = some o) : b < w.heap.size := by
  rcases Nat.lt_or_ge b w.heap.size with h' | h'
  · exact h'
  · simp [Array.getElem?_eq_none h'] at h

theorem Step.refl {ρ : Env} {H : Heap} {N : Nat} {w : World} (h : Inv ρ H w) : Step ρ H N w ρ H N w :=
  ⟨fun _ _ => rfl, rfl, rfl, rfl, Nat.le_refl _, fun _ _ _ => rfl, h, fun y k l hy hl => .inl ⟨y, k, l, hy, hl, rfl, id⟩⟩

theorem Step.le {ρ ρ' : Env} {H H' : Heap} {N N' : Nat} {w w' : World} (h : Step ρ H N w ρ' H' N' w') (hf : Fresh ρ N N') : ρ.le ρ' := by
  intro x l hx
  rw [h.ext x, hx]
  rintro ⟨h1, h2⟩
  rw [hf x h1 h2] at hx; simp at hx

theorem Step.trans {ρ ρ1 ρ2 : Env} {H H1 H2 : Heap} {N N1 N2 : Nat} {w w1 w2 : World} (h : Step ρ H N w ρ1 H1 N1 w1) (k : Step ρ1 H1 N1 w1 ρ2 H2 N2 w2)
    (h1 : N ≤ N1) (h2 : N1 ≤ N2) : Step ρ H N w ρ2 H2 N2 w2 where
  ext x hx := by rw [k.ext x (by omega), h.ext x (by omega)]
  os := k.os.trans h.os
  tape := k.tape.trans h.tape
  output := k.output.trans h.output
  size := Nat.le_trans h.size k.size
  block b hb hn := by
    rw [k.block b (Nat.lt_of_lt_of_le hb h.size) ?_, h.block b hb hn]
    intro ho
    rcases h.own b ho with h' | h'
    · exact hn h'
    · omega
  inv := k.inv
  prov y q l hy hl := by
    rcases k.prov y q l hy hl with ⟨z, kz, lz, hz, hlz, hb, hrw⟩ | h'
    · rcases h.prov z kz lz hz hlz with ⟨u, ku, lu, hu, hlu, hb2, hrw2⟩ | h2
      · exact .inl ⟨u, ku, lu, hu, hlu, hb2.trans hb, fun hh => hrw2 (hrw hh)⟩
      · exact .inr (by rw [← hb]; exact h2)
    · exact .inr (Nat.le_trans h.size h')

theorem Fresh.sub {ρ : Env} {N N' M M' : Nat} (h : Fresh ρ N N') (h1 : N ≤ M) (h2 : M' ≤ N') : Fresh ρ M M' :=
  fun x hx hx' => h x (Nat.le_trans h1 hx) (Nat.lt_of_lt_of_le hx' h2)
theorem Fresh.next {ρ ρ1 : Env} {H H1 : Heap} {N N1 N2 : Nat} {w w1 : World} (hf : Fresh ρ N N2) (h : Step ρ H N w ρ1 H1 N1 w1) (h1 : N ≤ N1) : Fresh ρ1 N1 N2 := by
  intro x hx hx'
  rw [h.ext x (by omega)]
  exact hf x (by omega) hx'

theorem BlkRel.mono {ρ ρ' : Env} {w w' : World} {l : Loc} {b : Blk} (h : BlkRel ρ w l b) (hl : ρ.le ρ') (hw : w'.heap[l.b]? = w.heap[l.b]?) : BlkRel ρ' w' l b := by
  obtain ⟨c, e, fr, h1, h2, h3, h4⟩ := h
  refine ⟨c, e, fr, hw.trans h1, h2, h3, fun o v hv => ?_⟩
  obtain ⟨x, hx, hr⟩ := h4 o v hv
  exact ⟨x, hx, VR_mono hl _ _ hr⟩
theorem BlkRel.lt {ρ : Env} {w : World} {l : Loc} {b : Blk} (h : BlkRel ρ w l b) : l.b < w.heap.size := by
  obtain ⟨c, e, fr, h1, _⟩ := h; exact lt_size h1

/-- The world behind a draw. -/
theorem Inv.drew {ρ : Env} {H : Heap} {w : World} (h : Inv ρ H w) : Inv ρ H w.drew := ⟨h.blk, h.inj⟩
theorem Step.drew {ρ : Env} {H : Heap} {N : Nat} {w : World} (h : Inv ρ H w) : Step ρ H N w ρ H N w.drew :=
  ⟨fun _ _ => rfl, rfl, rfl, rfl, Nat.le_refl _, fun _ _ _ => rfl, h.drew, fun y k l hy hl => .inl ⟨y, k, l, hy, hl, rfl, id⟩⟩

/-! loads -/
theorem addr_add (l : Loc) (n j : Nat) : (l.addr n).add j = l.addr (n + j) := by
  unfold Addr.add Loc.addr
  split
  · rename_i h; subst h; rfl
  · simp [Nat.add_assoc]
theorem cell_of {w : World} {b : Nat} {c : Array Value} {e : TypeId} {fr : Nat × Nat} (h : w.heap[b]? = some (.cells c e fr)) (o : Nat) : w.cell? ⟨b, o, none⟩ = c[o]? := by
  simp [World.cell?, h]
theorem getElem_slice {α : Type} {l cs : List α} {p n : Nat} (h : (l.drop p).take n = cs) (hl : cs.length = n) (j : Nat) (hj : j < n) : l[p + j]? = cs[j]? := by
  subst h
  rw [List.getElem?_take_of_lt hj, List.getElem?_drop]

theorem Inv.cells {ρ : Env} {H : Heap} {w : World} (hi : Inv ρ H w) {x : Nat} {b : Blk} (hb : H.find x = some b) {p n : Nat} {cs : List AV} (hs : ((flat b.segs).drop p).take n = cs) (hn : cs.length = n) :
    ∃ l ys, ρ x = some l ∧ VRs ρ cs ys ∧ ∀ j y, ys[j]? = some y → w.cell? (l.addr (p + j)) = some y := by
  obtain ⟨l, hl, c, e, fr, h1, h2, h3, h4⟩ := hi.blk x b hb
  have key : ∀ j, j < n → ∃ v y, cs[j]? = some v ∧ c[l.o + (p + j)]? = some y ∧ VR ρ v y := by
    intro j hj
    have hcs : ∃ v, cs[j]? = some v := ⟨cs[j]'(by omega), List.getElem?_eq_getElem (by omega)⟩
    obtain ⟨v, hv⟩ := hcs
    have := getElem_slice hs hn j hj
    obtain ⟨y, hy, hr⟩ := h4 (p + j) v (by rw [this, hv])
    exact ⟨v, y, hv, hy, hr⟩
  refine ⟨l, (List.range n).map fun j => (c[l.o + (p + j)]?).getD undef, hl, ?_, ?_⟩
  · refine VRs_of (by simp [hn]) fun i v y hv hy => ?_
    have hin : i < n := by
      rcases Nat.lt_or_ge i n with h | h
      · exact h
      · rw [List.getElem?_eq_none (by omega)] at hv; simp at hv
    obtain ⟨v', y', hv', hy', hr⟩ := key i hin
    simp [hin, hy'] at hy
    rw [hv'] at hv; simp at hv; subst hv; subst hy; exact hr
  · intro j y hy
    have hin : j < n := by
      rcases Nat.lt_or_ge j n with h | h
      · exact h
      · rw [List.getElem?_eq_none (by simp; omega)] at hy; simp at hy
    obtain ⟨v', y', hv', hy', hr⟩ := key j hin
    simp [hin, hy'] at hy
    subst hy
    show w.cell? ⟨l.b, l.o + (p + j), none⟩ = _
    rw [cell_of h1, hy']

section
variable {P : Program} {w : World}
theorem run_typeInfo {t : TypeId} {i : TypeInfo} (h : P.info? t = some i) : (typeInfo t).run P w = .ok i w := by simp [typeInfo, h]
theorem run_sizeOf {t : TypeId} {n : Nat} (h : szOf P t = some n) : (sizeOf t).run P w = .ok n w := by
  unfold szOf at h
  cases hi : P.info? t with
  | none => simp [hi] at h
  | some i => simp [hi] at h; subst h; simp [sizeOf, run_typeInfo hi]
theorem run_underlying {t : TypeId} {d : TypeDesc} (h : P.underlying t = some d) : (underlying t).run P w = .ok d w := by simp [underlying, h]
theorem run_isAgg {t : TypeId} {b : Bool} (h : isAggT P t = some b) : (isAgg t).run P w = .ok b w := by
  unfold isAggT at h
  cases hd : P.underlying t with
  | none => simp [hd] at h
  | some d => cases d <;> simp [hd] at h <;> subst h <;> simp [isAgg, run_underlying hd]

theorem run_load_cell {a : Addr} {v : Value} (h : w.cell? a = some v) : (load a).run P w = .ok v w := by simp [h]
theorem run_loadCells_at (l : Loc) (p : Nat) (ys : List Value) (h : ∀ j y, ys[j]? = some y → w.cell? (l.addr (p + j)) = some y) : (loadCells (l.addr p) ys.length).run P w = .ok ys.toArray w :=
  run_loadCells_list w (l.addr p) ys fun j v hv => by rw [addr_add]; exact h j v hv

/-- What a load answers, of cells that stand in the executor's memory. -/
theorem run_loadVar {ρ : Env} {t : TypeId} {l : Loc} {p n : Nat} {cs : List AV} {ys : List Value} (hn : szOf P t = some n) (hcs : cs.length = n) (hv : VRs ρ cs ys) (hy : ∀ j y, ys[j]? = some y → w.cell? (l.addr (p + j)) = some y)
    {R : Type} {K : AV → Option R} {r : R} (h : aggOr P t cs K = some r) : ∃ v, K v = some r ∧ ∃ y, (loadVar t (l.addr p)).run P w = .ok y w ∧ VR ρ v y := by
  unfold aggOr at h
  have hl := VRs_length hv
  split at h
  · rename_i ha
    refine ⟨_, h, .agg ys.toArray, ?_, by simp only [VR]; exact ⟨_, rfl, by simpa using hv⟩⟩
    have := run_loadCells_at (P := P) l p ys hy
    rw [← hl, hcs] at this
    simp [loadVar, run_isAgg ha, run_sizeOf hn, this]
  · rename_i ha
    split at h
    · rename_i v
      obtain ⟨y, rfl, hr⟩ := VRs_one_iff.1 hv
      refine ⟨v, h, y, ?_, hr⟩
      have hc := hy 0 y rfl
      simp only [Nat.add_zero] at hc
      simp [loadVar, run_isAgg ha, hc]
    · simp at h
  · simp at h
end

/-- Cells that the executor loads. -/
theorem takeSegs_spec : ∀ (s : List Seg) (off n : Nat) (cs : List AV), takeSegs s off n = some cs → cs.length = n ∧ ((flat s).drop off).take n = cs
  | [], off, n, cs, h => by
    unfold takeSegs at h
    cases n with
    | zero => simp only [Option.some.injEq] at h; subst h; simp
    | succ n => simp at h
  | .cell v :: r, off, n, cs, h => by
    unfold takeSegs at h
    cases n with
    | zero => simp only [Option.some.injEq] at h; subst h; simp
    | succ n =>
      cases off with
      | zero =>
        simp only at h
        split at h
        · rename_i l hl
          simp only [Option.some.injEq] at h; subst h
          obtain ⟨h1, h2⟩ := takeSegs_spec r 0 n l hl
          simp only [flat, List.drop_zero, List.take_succ_cons, List.length_cons, h1, true_and]
          rw [List.drop_zero] at h2
          rw [h2]
        · simp at h
      | succ o =>
        simp only at h
        obtain ⟨h1, h2⟩ := takeSegs_spec r o (n + 1) cs h
        exact ⟨h1, by simpa [flat] using h2⟩
  | .arr sh m d :: r, off, n, cs, h => by
    unfold takeSegs at h
    cases n with
    | zero => simp only [Option.some.injEq] at h; subst h; simp
    | succ n =>
      simp only at h
      cases hb : Nat.ble (m * sh.length) off with
      | true =>
        rw [hb] at h
        simp only [cond_true] at h
        obtain ⟨h1, h2⟩ := takeSegs_spec r _ (n + 1) cs h
        refine ⟨h1, ?_⟩
        rw [ble_true] at hb
        simp only [flat]
        rw [List.drop_append, List.drop_eq_nil_of_le (by rw [arrFlat_length]; exact hb), arrFlat_length, List.nil_append]
        exact h2
      | false =>
        rw [hb] at h
        simp only [cond_false] at h
        cases hl : Nat.beq (((flat (.arr sh m d :: r)).drop off).take (n + 1)).length (n + 1) with
        | false => rw [hl] at h; simp at h
        | true =>
          rw [hl] at h
          simp only [cond_true, Option.some.injEq] at h
          rw [beq_true] at hl
          exact ⟨h ▸ hl, h⟩
theorem loadA_spec {R : Type} {H : Heap} {p : AP} {n : Nat} {K : List AV → Option R} {r : R} (h : loadA H p n K = some r) :
    ∃ cs, K cs = some r ∧ cs.length = n ∧ ∃ b, H.find p.x = some b ∧ ((flat b.segs).drop p.pos).take n = cs := by
  unfold loadA at h
  split at h
  · simp at h
  · rename_i b hb
    split at h
    · rename_i hsz
      split at h
      · rename_i cs hcs
        cases hc : Nat.beq p.j 0 with
        | false => rw [hc] at h; simp at h
        | true =>
          rw [hc] at h
          rw [beq_true] at hc
          obtain ⟨h1, h2⟩ := takeSegs_spec _ _ _ _ hcs
          exact ⟨_, h, h1, b, hb, by simp [AP.pos, hsz, hc, h2]⟩
      · simp at h
    · rename_i s hsz
      split at h
      · simp at h
      · rename_i sh m d hf
        cases hc : (Nat.beq sh.length (s + 1) && Nat.ble (p.j + n) (s + 1)) with
        | false => simp [hc] at h
        | true =>
          simp only [hc, cond_true] at h
          simp only [Bool.and_eq_true, beq_true, ble_true] at hc
          cases hi : decide (p.i < m) with
          | false => simp [hi] at h
          | true =>
            simp only [hi, cond_true] at h
            have hi' : p.i < m := of_decide_eq_true hi
            refine ⟨_, h, by simp [rowCells_length]; omega, b, hb, ?_⟩
            apply List.ext_getElem?
            intro j
            by_cases hj : j < n
            · rw [List.getElem?_take_of_lt hj, List.getElem?_take_of_lt hj, List.getElem?_drop, List.getElem?_drop]
              have := findArr_flat hf p.i (p.j + j) hi' (by omega)
              rw [← this]
              congr 1
              simp only [AP.pos, hsz, hc.1, Nat.succ_eq_add_one]; omega
            · rw [List.getElem?_take_eq_none (by omega), List.getElem?_take_eq_none (by omega)]

/-! stores -/
def writeC (c : Array Value) : Nat → List Value → Array Value
  | _, [] => c
  | o, v :: r => writeC (c.setIfInBounds o v) (o + 1) r
theorem writeC_size : ∀ (vs : List Value) (c : Array Value) (o : Nat), (writeC c o vs).size = c.size
  | [], c, o => rfl
  | v :: r, c, o => by simp [writeC, writeC_size r]
theorem writeC_get : ∀ (vs : List Value) (c : Array Value) (o k : Nat), o + vs.length ≤ c.size → (writeC c o vs)[k]? = if o ≤ k ∧ k < o + vs.length then vs[k - o]? else c[k]?
  | [], c, o, k, _ => by simp [writeC]; intro h1 h2; omega
  | v :: r, c, o, k, h => by
    simp only [List.length_cons] at h
    rw [writeC, writeC_get r _ (o + 1) k (by simp; omega)]
    by_cases hk : o + 1 ≤ k ∧ k < o + 1 + r.length
    · rw [if_pos hk, if_pos (by simp; omega)]
      obtain ⟨m, rfl⟩ : ∃ m, k = o + 1 + m := ⟨k - (o + 1), by omega⟩
      rw [show o + 1 + m - (o + 1) = m by omega, show o + 1 + m - o = m + 1 by omega]; simp
    · rw [if_neg hk]
      by_cases hk2 : k = o
      · subst hk2; rw [if_pos (by simp)]; simp [show k < c.size by omega]
      · rw [if_neg (by simp; omega), Array.getElem?_setIfInBounds_ne (by omega)]
theorem heap_setIf (w : World) {b : Nat} {o : Obj} (hb : b < w.heap.size) (k : Nat) : (w.heap.setIfInBounds b o)[k]? = if k = b then some o else w.heap[k]? := by
  by_cases h : k = b
  · subst h; simp [hb]
  · rw [Array.getElem?_setIfInBounds_ne (by omega)]; simp [h]
theorem run_storeCells {P : Program} : ∀ (vs : List Value) (w : World) (b : Nat) (c : Array Value) (e : TypeId) (o i : Nat), w.heap[b]? = some (.cells c e (0, 0)) → (∀ v ∈ vs, v.oneCell' = true) → o + i + vs.length ≤ c.size →
    (storeCells ⟨b, o, none⟩ vs i).run P w = .ok () { w with heap := w.heap.setIfInBounds b (.cells (writeC c (o + i) vs) e (0, 0)) }
  | [], w, b, c, e, o, i, hb, _, _ => by
    simp only [storeCells, Sem.run_pure, writeC]
    congr 1
    have : w.heap.setIfInBounds b (.cells c e (0, 0)) = w.heap := by
      apply Array.ext_getElem?
      intro k
      rw [heap_setIf w (lt_size hb)]
      split
      · rename_i h; subst h; exact hb.symm
      · rfl
    rw [this]
  | v :: r, w, b, c, e, o, i, hb, hv, hl => by
    simp only [List.length_cons] at hl
    have ha : (⟨b, o, none⟩ : Addr).add i = ⟨b, o + i, none⟩ := by
      unfold Addr.add; split
      · rename_i h; subst h; rfl
      · rfl
    have hc : w.cell? ⟨b, o + i, none⟩ = c[o + i]? := cell_of hb _
    have hlt : o + i < c.size := by omega
    have hs : (store (⟨b, o + i, none⟩ : Addr) v).run P w = .ok () (w.setCell ⟨b, o + i, none⟩ v) := by
      rw [run_store P w _ v _ (hv v (by simp)), hc, Array.getElem?_eq_getElem hlt]
      simp [World.frozen?, hb]
    have hw : w.setCell ⟨b, o + i, none⟩ v = { w with heap := w.heap.setIfInBounds b (.cells (c.setIfInBounds (o + i) v) e (0, 0)) } := by
      unfold World.setCell
      congr 1
      apply Array.ext_getElem?
      intro k
      rw [heap_setIf w (lt_size hb), Array.getElem?_modify]
      by_cases hk : k = b
      · subst hk; simp [hb]
      · rw [if_neg (fun e => hk e.symm), if_neg hk]
    simp only [storeCells, ha, Sem.run_bind, hs, Result.andThen_ok]
    rw [hw, run_storeCells r _ b (c.setIfInBounds (o + i) v) e o (i + 1) (by rw [heap_setIf w (lt_size hb)]; simp) (fun u hu => hv u (by simp [hu])) (by simp; omega)]
    congr 2
    · simp [writeC, Nat.add_assoc]

theorem VR_oneCell {ρ : Env} {v : AV} {x : Value} (h : isCell v = true) (hr : VR ρ v x) : x.oneCell' = true := by
  cases v <;> simp [isCell] at h <;> simp only [VR] at hr
  case bool => subst hr; rfl
  case int => subst hr; rfl
  case ptr => obtain ⟨_, _, rfl⟩ := hr; rfl
  case nilptr => subst hr; rfl
  case slice => obtain ⟨_, _, _, _, _, _, rfl⟩ := hr; rfl
  case nilslice => subst hr; rfl
  case func => obtain ⟨_, _, rfl, _⟩ := hr; rfl
  case nilfunc => subst hr; rfl
  case iface => obtain ⟨_, rfl, _⟩ := hr; rfl
  case nilface => subst hr; rfl
  case lit => subst hr; exact h
theorem allCells_mem : ∀ {l : List AV}, allCells l = true → ∀ v ∈ l, isCell v = true
  | [], _, v, h => by simp at h
  | u :: l, hh, v, h => by
    simp only [allCells, Bool.and_eq_true] at hh
    rcases List.mem_cons.1 h with rfl | h
    · exact hh.1
    · exact allCells_mem hh.2 v h
theorem VRs_oneCell {ρ : Env} {l : List AV} {ys : List Value} (h : allCells l = true) (hr : VRs ρ l ys) : ∀ y ∈ ys, y.oneCell' = true := by
  intro y hy
  obtain ⟨i, hi⟩ := List.getElem?_of_mem hy
  have hlt : i < l.length := by
    rw [VRs_length hr]
    rcases Nat.lt_or_ge i ys.length with h' | h'
    · exact h'
    · rw [List.getElem?_eq_none h'] at hi; simp at hi
  obtain ⟨y', hy', hv⟩ := VRs_get hr i l[i] (List.getElem?_eq_getElem hlt)
  rw [hi] at hy'; simp at hy'; subst hy'
  exact VR_oneCell (allCells_mem h _ (List.getElem_mem hlt)) hv

/-- What the executor stores: the block behind it. -/
theorem storeA_spec {R : Type} {H : Heap} {p : AP} {vs : List AV} {K : Blk → Option R} {r : R} (h : storeA H p vs K = some r) :
    ∃ b', K b' = some r ∧ allCells vs = true ∧ 1 ≤ vs.length ∧ ∃ b, H.find p.x = some b ∧ b.rw = true ∧ b'.rw = true ∧
      p.pos + vs.length ≤ (flat b.segs).length ∧ flat b'.segs = (flat b.segs).take p.pos ++ (vs ++ (flat b.segs).drop (p.pos + vs.length)) := by
  unfold storeA at h
  cases ha0 : (allCells vs && Nat.ble 1 vs.length) with
  | false => rw [ha0] at h; simp at h
  | true =>
    rw [ha0] at h
    simp only [cond_true] at h
    simp only [Bool.and_eq_true, ble_true] at ha0
    obtain ⟨ha, hv1⟩ := ha0
    split at h
    · simp at h
    · rename_i b hb
      cases hw : b.rw with
      | false => simp [hw] at h
      | true =>
        simp only [hw, cond_true] at h
        split at h
        · rename_i hsz
          cases hj : Nat.beq p.j 0 with
          | false => simp [hj] at h
          | true =>
            simp only [hj, cond_true] at h
            rw [beq_true] at hj
            split at h
            · rename_i s hs
              refine ⟨_, h, ha, hv1, b, hb, hw, rfl, ?_⟩
              have hp : p.pos = p.off := by simp [AP.pos, hsz, hj]
              rw [hp]
              rcases writeSegs_flat hs with ⟨h1, h2⟩ | h1
              · subst h1; simp at hv1
              · exact h1
            · simp at h
        · rename_i s hsz
          split at h
          · simp at h
          · rename_i sh m d hf
            cases hc : (Nat.beq sh.length (s + 1) && Nat.ble (p.j + vs.length) (s + 1) && fitsRow sh (splice (rowCells sh (d.getD p.i [])) p.j vs)) with
            | false => simp only [hc, cond_false] at h; simp at h
            | true =>
              simp only [hc, cond_true] at h
              simp only [Bool.and_eq_true, beq_true, ble_true] at hc
              obtain ⟨⟨hc1, hc2⟩, hc3⟩ := hc
              cases hi : (decide (p.i < m) && decide (p.i < d.length)) with
              | false => simp [hi] at h
              | true =>
                simp only [hi, cond_true] at h
                simp only [Bool.and_eq_true, decide_eq_true_eq] at hi
                refine ⟨_, h, ha, hv1, b, hb, hw, rfl, ?_⟩
                have e := setArr_flat hf p.i _ hi.1 hi.2 hc3
                have hp : p.pos = p.off + p.i * sh.length + p.j := by simp [AP.pos, hsz, hc1]
                have hrow : ∀ j, j < sh.length → (flat b.segs)[p.off + p.i * sh.length + j]? = (rowCells sh (d.getD p.i []))[j]? := fun j hj => findArr_flat hf p.i j hi.1 hj
                have hrl : (rowCells sh (d.getD p.i [])).length = sh.length := rowCells_length _ _
                have hlen : p.off + p.i * sh.length + sh.length ≤ (flat b.segs).length := by
                  have h0 := hrow (sh.length - 1) (by omega)
                  rw [List.getElem?_eq_getElem (by omega : sh.length - 1 < (rowCells sh (d.getD p.i [])).length)] at h0
                  have := (List.getElem?_eq_some_iff.1 h0).1
                  omega
                refine ⟨by omega, ?_⟩
                simp only [e]
                rw [hp]
                generalize hrc : rowCells sh (d.getD p.i []) = rc at *
                generalize hA : p.off + p.i * sh.length = A at *
                apply List.ext_getElem?
                intro k
                unfold splice
                rcases Nat.lt_or_ge k A with hk | hk
                · rw [List.getElem?_append_left (by simp; omega), List.getElem?_append_left (by simp; omega), List.getElem?_take_of_lt hk, List.getElem?_take_of_lt (by omega)]
                · rw [List.getElem?_append_right (by simp; omega)]
                  simp only [List.length_take, Nat.min_eq_left (show A ≤ (flat b.segs).length by omega)]
                  rcases Nat.lt_or_ge k (A + p.j) with hk2 | hk2
                  · rw [List.getElem?_append_left (by simp; omega), List.getElem?_append_left (by simp; omega), List.getElem?_append_left (by simp; omega), List.getElem?_take_of_lt (by omega), List.getElem?_take_of_lt (by omega)]
                    rw [← hrow (k - A) (by omega)]; congr 1; omega
                  · rw [List.getElem?_append_right (by simp; omega) (l₁ := List.take (A + p.j) _)]
                    simp only [List.length_take, Nat.min_eq_left (show A + p.j ≤ (flat b.segs).length by omega)]
                    rcases Nat.lt_or_ge k (A + p.j + vs.length) with hk3 | hk3
                    · rw [List.getElem?_append_left (by simp; omega), List.getElem?_append_right (by simp; omega), List.getElem?_append_left (by simp; omega), List.getElem?_append_left (by omega)]
                      congr 1; simp; omega
                    · rw [List.getElem?_append_right (by omega) (l₁ := vs)]
                      rcases Nat.lt_or_ge k (A + sh.length) with hk4 | hk4
                      · rw [List.getElem?_append_left (by simp; omega), List.getElem?_append_right (by simp; omega), List.getElem?_append_right (by simp; omega), List.getElem?_drop, List.getElem?_drop]
                        rw [show A + p.j + vs.length + (k - (A + p.j) - vs.length) = A + (k - A) by omega, hrow (k - A) (by omega)]
                        congr 1; simp; omega
                      · rw [List.getElem?_append_right (by simp; omega), List.getElem?_drop, List.getElem?_drop]
                        congr 1; simp; omega
end Go.Sx

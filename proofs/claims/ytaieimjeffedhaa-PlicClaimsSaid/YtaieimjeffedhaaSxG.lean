/- What the executor's operations answer, the machine's operations answer: memory. -/
import Derived.Test.YtaieimjeffedhaaSxF
set_option linter.unusedSimpArgs false
set_option linter.unusedVariables false
set_option linter.unnecessarySimpa false
namespace Go.Sx
open Go

section
variable {P : Program} {w : World} {ρ : Env} {R : Type} {r : R}

/-- What an operation must come to. -/
def Post (ρ : Env) (H : Heap) (N : Nat) (w : World) (e : Eff) (N' : Nat) (v : AV) (v' : Value) (w' : World) : Prop :=
  ∃ ρ', Step ρ H N w ρ' (H.upd e) N' w' ∧ VR ρ' v v'

theorem Post.same {H : Heap} {N : Nat} {v : AV} {v' : Value} (hi : Inv ρ H w) (h : VR ρ v v') : Post ρ H N w [] N v v' w := ⟨ρ, Step.refl hi, h⟩

/-- Names and places, one more. -/
def Env.add (ρ : Env) (N : Nat) (l : Loc) : Env := fun x => if x = N then some l else ρ x
theorem Env.add_le {N : Nat} {l : Loc} (h : ρ N = none) : ρ.le (ρ.add N l) := by
  intro x k hx
  unfold Env.add
  split
  · rename_i e; subst e; rw [h] at hx; simp at hx
  · exact hx
theorem Env.add_self {N : Nat} {l : Loc} : (ρ.add N l) N = some l := by simp [Env.add]

theorem Inv.none {H : Heap} {N : Nat} (hi : Inv ρ H w) (h : ρ N = none) : H.find N = none := by
  cases hf : H.find N with
  | none => rfl
  | some b => obtain ⟨l, hl, _⟩ := hi.blk N b hf; rw [h] at hl; simp at hl

theorem heap_alloc (w : World) (o : Obj) (k : Nat) : (w.alloc o).heap[k]? = if k = w.heap.size then some o else w.heap[k]? := by
  show (w.heap.push o)[k]? = _
  rw [Array.getElem?_push]
/-- A new block. -/
theorem step_new {H : Heap} {N : Nat} {s : List Seg} {ys : List Value} {c : Array Value} {e : TypeId} (hi : Inv ρ H w) (hN : ρ N = none) (hv : VRs ρ (flat s) ys) (hc : ∀ (j : Nat) (y : Value), ys[j]? = some y → c[j]? = some y) :
    Step ρ H N w (ρ.add N ⟨w.heap.size, 0, c.size, true⟩) (H.put N ⟨true, s⟩) (N + 1) (w.alloc (.cells c e)) where
  ext x hx := by simp [Env.add]; intro h; omega
  os := rfl
  tape := rfl
  output := rfl
  size := by simp
  block b hb _ := by rw [heap_alloc, if_neg (by omega)]
  inv := by
    have hle := Env.add_le (l := ⟨w.heap.size, 0, c.size, true⟩) hN
    constructor
    · intro x b hx
      rw [find_put] at hx
      split at hx
      · rename_i hxe; subst hxe
        simp at hx; subst hx
        refine ⟨_, Env.add_self, c, e, (0, 0), by rw [heap_alloc, if_pos rfl], rfl, fun _ => ⟨rfl, rfl⟩, fun o v hv' => ?_⟩
        obtain ⟨y, hy, hr⟩ := VRs_get hv o v hv'
        exact ⟨y, by simpa using hc o y hy, VR_mono hle _ _ hr⟩
      · obtain ⟨l, hl, hb⟩ := hi.blk x b hx
        refine ⟨l, hle _ _ hl, hb.mono hle ?_⟩
        have := hb.lt
        rw [heap_alloc, if_neg (by omega)]
    · intro x y bx b' lx ly hx hy hlx hly hrw hb
      rw [find_put] at hx hy
      by_cases h1 : x = N <;> by_cases h2 : y = N
      · rw [h1, h2]
      · subst h1
        rw [if_neg h2] at hy
        obtain ⟨l, hl, hbl⟩ := hi.blk y b' hy
        have := hle _ _ hl
        rw [hly] at this; simp at this; subst this
        rw [Env.add_self] at hlx; simp at hlx; subst hlx
        have := hbl.lt
        simp at hb; omega
      · subst h2
        rw [if_neg h1] at hx
        obtain ⟨l, hl, hbl⟩ := hi.blk x bx hx
        have := hle _ _ hl
        rw [hlx] at this; simp at this; subst this
        rw [Env.add_self] at hly; simp at hly; subst hly
        have := hbl.lt
        simp at hb; omega
      · rw [if_neg h1] at hx; rw [if_neg h2] at hy
        simp [Env.add, h1] at hlx
        simp [Env.add, h2] at hly
        exact hi.inj x y bx b' lx ly hx hy hlx hly hrw hb
  prov x k l hx hl := by
    rw [find_put] at hx
    split at hx
    · rename_i hxe; subst hxe
      rw [Env.add_self] at hl; simp at hl; subst hl
      exact .inr (Nat.le_refl _)
    · rename_i hxe
      simp [Env.add, hxe] at hl
      exact .inl ⟨x, k, l, hx, hl, rfl, id⟩

/-- Cells of a block that may be written, written. -/
theorem step_store {H : Heap} {N : Nat} {x : Nat} {b b' : Blk} {l : Loc} {c : Array Value} {e : TypeId} {p : Nat} {vs : List AV} {ys : List Value} (hi : Inv ρ H w) (hb : H.find x = some b) (hl : ρ x = some l) (hrw : b.rw = true) (hrw' : b'.rw = true)
    (hc : w.heap[l.b]? = some (.cells c e (0, 0))) (hv : VRs ρ vs ys) (hlen : l.o + p + ys.length ≤ c.size) (hp : p + vs.length ≤ (flat b.segs).length)
    (hf : flat b'.segs = (flat b.segs).take p ++ (vs ++ (flat b.segs).drop (p + vs.length))) :
    Step ρ H N w ρ (H.put x b') N { w with heap := w.heap.setIfInBounds l.b (.cells (writeC c (l.o + p) ys) e (0, 0)) } where
  ext _ _ := rfl
  os := rfl
  tape := rfl
  output := rfl
  size := by simp
  block k hk hn := by
    rw [heap_setIf w (lt_size hc)]
    rw [if_neg]
    rintro rfl
    obtain ⟨l', hl', hbr⟩ := hi.blk x b hb
    rw [hl] at hl'; simp at hl'; subst hl'
    obtain ⟨_, _, _, _, h2, _⟩ := hbr
    exact hn ⟨x, b, l, hb, hl, by rw [h2, hrw], rfl⟩
  inv := by
    obtain ⟨l', hl', hbr⟩ := hi.blk x b hb
    rw [hl] at hl'; simp at hl'; subst hl'
    obtain ⟨c', e', fr', h1, h2, h3, h4⟩ := hbr
    rw [hc] at h1; simp at h1
    obtain ⟨rfl, rfl, rfl⟩ := h1
    constructor
    · intro y by' hy
      rw [find_put] at hy
      split at hy
      · rename_i hye; subst hye
        simp at hy; subst hy
        refine ⟨l, hl, writeC c (l.o + p) ys, e, (0, 0), by rw [heap_setIf w (lt_size hc)]; simp, by rw [h2, hrw, hrw'], fun _ => ⟨rfl, by rw [writeC_size]; exact (h3 hrw).2⟩, fun o v hv' => ?_⟩
        rw [hf] at hv'
        rw [writeC_get _ _ _ _ (by omega)]
        have hvl := VRs_length hv
        rcases Nat.lt_or_ge o p with ho | ho
        · rw [List.getElem?_append_left (by simp; omega), List.getElem?_take_of_lt ho] at hv'
          rw [if_neg (by omega)]
          exact h4 o v hv'
        · rw [List.getElem?_append_right (by simp; omega)] at hv'
          simp only [List.length_take, Nat.min_eq_left (show p ≤ (flat b.segs).length by omega)] at hv'
          rcases Nat.lt_or_ge o (p + vs.length) with ho2 | ho2
          · rw [List.getElem?_append_left (by omega)] at hv'
            rw [if_pos (by omega)]
            obtain ⟨z, hz, hr⟩ := VRs_get hv _ _ hv'
            exact ⟨z, by rw [show l.o + o - (l.o + p) = o - p by omega]; exact hz, hr⟩
          · rw [List.getElem?_append_right (by omega), List.getElem?_drop] at hv'
            rw [show p + vs.length + (o - p - vs.length) = o by omega] at hv'
            rw [if_neg (by omega)]
            exact h4 o v hv'
      · rename_i hye
        obtain ⟨ly, hly, hby⟩ := hi.blk y by' hy
        refine ⟨ly, hly, hby.mono (fun _ _ h => h) ?_⟩
        rw [heap_setIf w (lt_size hc), if_neg]
        intro hh
        exact hye (hi.inj x y b by' l ly hb hy hl hly (by rw [h2, hrw]) hh.symm).symm
    · intro y z by' bz ly lz hy hz hly hlz hr hbb
      rw [find_put] at hy hz
      have hy' : ∃ q, H.find y = some q := by
        split at hy
        · rename_i h; subst h; exact ⟨b, hb⟩
        · exact ⟨_, hy⟩
      have hz' : ∃ q, H.find z = some q := by
        split at hz
        · rename_i h; subst h; exact ⟨b, hb⟩
        · exact ⟨_, hz⟩
      obtain ⟨q, hq⟩ := hy'
      obtain ⟨q', hq'⟩ := hz'
      exact hi.inj y z q q' ly lz hq hq' hly hlz hr hbb
  prov y q ly hy hly := by
    rw [find_put] at hy
    split at hy
    · rename_i h; subst h; exact .inl ⟨y, b, ly, hb, hly, rfl, id⟩
    · exact .inl ⟨y, q, ly, hy, hly, rfl, id⟩

/-- A name let go. -/
theorem Inv.del {H : Heap} (hi : Inv ρ H w) (x : Nat) : Inv ρ (H.del x) w := by
  constructor
  · intro y b hy
    rw [find_del] at hy
    split at hy
    · simp at hy
    · exact hi.blk y b hy
  · intro y z by' bz ly lz hy hz
    rw [find_del] at hy hz
    split at hy
    · simp at hy
    · split at hz
      · simp at hz
      · exact hi.inj y z by' bz ly lz hy hz
theorem step_del {H : Heap} {N : Nat} (hi : Inv ρ H w) (x : Nat) : Step ρ H N w ρ (H.del x) N w where
  ext _ _ := rfl
  os := rfl
  tape := rfl
  output := rfl
  size := Nat.le_refl _
  block _ _ _ := rfl
  inv := hi.del x
  prov y k l hy hl := by
    rw [find_del] at hy
    split at hy
    · simp at hy
    · exact .inl ⟨y, k, l, hy, hl, rfl, id⟩

theorem newA_sound {t : TypeId} {cs : List AV} {H : Heap} {N : Nat} {K : AV → Eff → Nat → Option R} (h : newA P t cs N K = some r) :
    ∃ v e N', K v e N' = some r ∧ N ≤ N' ∧ allCells cs = true ∧ ∀ ρ w x, VRs ρ cs x.cells.toList → Inv ρ H w → Fresh ρ N N' →
      ∃ z w', (newVar t x).run P w = .ok z w' ∧ Post ρ H N w e N' v (.pointer (some z)) w' := by
  unfold newA at h
  cases hc : allCells cs with
  | false => simp [hc] at h
  | true =>
    simp only [hc, cond_true] at h
    split at h
    · rename_i s hs
      refine ⟨_, _, _, h, by omega, rfl, fun ρ w x hx hi hf => ?_⟩
      refine ⟨⟨w.heap.size, 0, none⟩, w.alloc (.cells x.cells t), by simp [newVar, newRow], _, step_new (c := x.cells) hi (hf N (Nat.le_refl _) (by omega)) (ys := x.cells.toList) (by rw [mkSegs_flat hs]; exact hx) (fun j y h => by simpa using h), ?_⟩
      simp only [VR]
      exact ⟨_, Env.add_self, by simp [Loc.addr, AP.pos]⟩
    · simp at h

theorem storeA_sound {H : Heap} {N : Nat} {p : AP} {vs : List AV} {K : Blk → Option R} {t : TypeId} (h : storeA H p vs K = some r) :
    ∃ b', K b' = some r ∧ allCells vs = true ∧ ∀ ρ w x, VRs ρ vs x.cells.toList → Inv ρ H w → (szOf P t = some vs.length) →
      ∃ l w', ρ p.x = some l ∧ (storeVar t (l.addr p.pos) x).run P w = .ok () w' ∧ Step ρ H N w ρ (H.put p.x b') N w' := by
  obtain ⟨b', hk, hc, hv1, b, hb, hrw, hrw', hle, hf⟩ := storeA_spec h
  refine ⟨b', hk, hc, fun ρ w x hx hi hn => ?_⟩
  obtain ⟨l, hl, c, e, fr, h1, h2, h3, h4⟩ := hi.blk p.x b hb
  obtain ⟨rfl, hext⟩ := h3 hrw
  have hxl := VRs_length hx
  have hone := VRs_oneCell hc hx
  have hbound : l.o + p.pos + x.cells.toList.length ≤ c.size := by
    rw [← hxl]
    have hlt : p.pos + vs.length - 1 < (flat b.segs).length := by omega
    obtain ⟨z, hz, _⟩ := h4 (p.pos + vs.length - 1) _ (List.getElem?_eq_getElem hlt)
    have := (Array.getElem?_eq_some_iff.1 hz).1
    omega
  refine ⟨l, _, hl, ?_, step_store hi hb hl hrw hrw' h1 hx hbound hle hf⟩
  have hs := run_storeCells (P := P) x.cells.toList w l.b c e (l.o + p.pos) 0 h1 hone (by omega)
  simp only [storeVar, Sem.run_bind, run_sizeOf hn, Result.andThen_ok]
  rw [if_neg (by simp; have : x.cells.size = vs.length := by simpa using hxl.symm
                 exact this)]
  simpa [Loc.addr] using hs
end
end Go.Sx

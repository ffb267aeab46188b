/- Several texts in one. -/
import Derived.Test.YtkbcfbehebbmhaaGreatSxT
import Derived.Deep.Slices
import Derived.OpenShut
import Derived.Test.YtkbcfbehebbmhaaGreatSxAE
import Derived.Laws.Externs
set_option linter.unusedSimpArgs false
set_option linter.unusedVariables false
set_option linter.unnecessarySimpa false
/- Laws whose arguments are rows of numbers in memory: the arguments opened. -/
namespace Go.Sx
open Go Go.RowKit Go.ChangeShapes Go.WideShapes Go.Deep

/-- A row of numbers: nil, or so many, by their places. -/
inductive Sl (w : Nat) where
  | nil
  | row (n : Nat) (f : Nat → BitVec w)
def Sl.av {w : Nat} (x : Nat) : Sl w → AV
  | .nil => .nilslice
  | .row n _ => .slice ⟨x, 0, 0, 1, 0⟩ 1 n
def numRows (k : IntKind) (f : Nat → BitVec k.bits) : Nat → Nat → List (List AV)
  | 0, _ => []
  | n + 1, i => [.int k (f i)] :: numRows k f n (i + 1)
def Sl.blk (k : IntKind) : Sl k.bits → Blk
  | .nil => ⟨false, []⟩
  | .row n f => ⟨false, [.arr [.int k] n (numRows k f n 0)]⟩
theorem numRows_get (k : IntKind) (f : Nat → BitVec k.bits) : ∀ (n i j : Nat), j < n → (numRows k f n i).getD j [] = [.int k (f (i + j))]
  | 0, i, j, h => absurd h (Nat.not_lt_zero _)
  | n + 1, i, 0, h => rfl
  | n + 1, i, j + 1, h => by
    show (numRows k f n (i + 1)).getD j [] = _
    rw [numRows_get k f n (i + 1) j (by omega), show i + 1 + j = i + (j + 1) by omega]

section
variable {H : Type} {enc : TypeId × Value → H} {P : Program} {w : World} {base : Nat} {spare : Nat → Bool} {held : Bool}
/-- A row of numbers, where it stands. -/
def SlAt (w : World) (k : IntKind) (v : Value) : Sl k.bits → Prop
  | .nil => v = .slice none 0 0
  | .row n f => ∃ b off cap, v = .slice (some ⟨b, off, none⟩) n cap ∧ n ≤ cap ∧ cap < 2 ^ 63 ∧ ∃ c e fr, w.heap[b]? = some (.cells c e fr) ∧ ∀ i, i < n → c[off + i]? = some (.int k (den k (f i)))
theorem slice_open {r : Reach} {b0 : Nat} {t e : TypeId} {k : IntKind} {v : Value} {d : DataW H} {ps : List MemPlace} (ht : P.underlying t = some (.slice e)) (he : P.underlying e = some (.int k)) (hc : P.cellsOf e = 1)
    (hval : Value.okWide P w r b0 t v) (hd : DataW.Trod enc P w base spare held t v d ps) : ∃ s : Sl k.bits, SlAt w k v s := by
  obtain ⟨a0, len0, cap0, rfl⟩ := okWide_slice ht hval
  obtain ⟨fuel, hf⟩ := hd
  rcases open_slice1 ht hc hf with ⟨h, _⟩ | ⟨a, len, cap, m, n, V, D, Pl, h, hb, hl, hcm, hm, _, hx⟩
  · simp [Value.cells] at h
    exact ⟨.nil, by simp [SlAt, h]⟩
  · simp [Value.cells] at h
    obtain ⟨rfl, rfl, rfl⟩ := h
    unfold Value.okWide Cell.okWide Cell.ok World.has at hval
    simp only [ht] at hval
    obtain ⟨h1, h2, _, hspot, row, cells, hsh, _⟩ := hval
    obtain ⟨b, off, spot⟩ := a
    simp only at hspot
    subst hspot
    have hcell : ∃ c e fr, w.heap[b]? = some (.cells c e fr) := by
      unfold World.shape? at hsh
      split at hsh
      · rename_i c e fr hh; exact ⟨c, e, fr, hh⟩
      · simp at hsh
    obtain ⟨c, et, fr, hh⟩ := hcell
    have hV : ∀ i, i < len0 → ∃ x : BitVec k.bits, c[off + i]? = some (.int k (den k x)) := fun i hi => by
      have hmm : i < m := by rw [hm]; split <;> omega
      obtain ⟨hcell, htr⟩ := hx i hmm
      obtain ⟨z, hz, _, hw⟩ := DataW.trod_int he htr
      simp only [List.cons.injEq, and_true] at hz
      rw [hz] at hcell
      rw [add_plain] at hcell
      unfold World.cell? at hcell
      simp only [hh, Option.isSome_none, Bool.false_eq_true, if_false] at hcell
      refine ⟨BitVec.ofInt k.bits z, ?_⟩
      rw [hcell, den_of_has (by simpa [Lit.wf, IntKind.has] using hw)]
    exact ⟨.row len0 (fun i => if h : i < len0 then (hV i h).choose else 0), b, off, cap0, rfl, h1, by
      have : IntKind.i64.max = 2 ^ 63 - 1 := by decide
      rw [this] at h2; omega, c, et, fr, hh, fun i hi => by
      have := (hV i hi).choose_spec
      simp only [dif_pos hi]; exact this⟩
end
/-- A law's run over memory that it may read. -/
def runS (P : Program) (C : Oracle) (F : Cfg) (fn : Func) (args : List AV) (H : Heap) (N : Nat) : Option AV := bodyA P C (drawA P) F fn args H N (fun v _ _ => some v)
theorem calls_trueS {P : Program} {C : Oracle} (hC : Snd P C) {F : Cfg} {g : FuncId} {fn : Func} (hfn : P.funcs[g]? = some fn) {args : List AV} {H : Heap} {N : Nat} (h : runS P C F fn args H N = some (.bool true))
    (w : World) {ρ : Env} (hf : FreshI ρ N) (hrw : ∀ x l, ρ x = some l → l.rw = false) (hi : Inv ρ H w) {vs : Array Value} (hvs : VRs ρ args vs.toList) (hF : FOK P fn F := by first | exact fok_nil rfl | assumption) :
    Calls P g vs w (fun e w' => e = .returned (.bool true) ∧ Below w.heap.size w w') := by
  obtain ⟨v1, H', N', hk, hN, hcall⟩ := bodyA_sound hC hfn hF h
  cases hk
  refine Calls.mono (by simpa using hcall ρ w vs.toList hvs hi hf) ?_
  rintro e w' ⟨v', rfl, ρ', hst, hv⟩
  simp only [VR] at hv
  refine ⟨by rw [hv], hst.os, hst.tape, hst.output, hst.size, fun b hb => hst.block b hb ?_⟩
  rintro ⟨x, k, l, hx, hl, hr, _⟩
  rw [hrw x l hl] at hr
  simp at hr
/-- Names for rows: a place for each. -/
def envOf : List (Nat × Loc) → Env
  | [], _ => none
  | (x, l) :: r, y => bif Nat.beq x y then some l else envOf r y
theorem numRows_flat (k : IntKind) (f : Nat → BitVec k.bits) : ∀ (n i o : Nat), o < n → (arrFlat [.int k] n (numRows k f n i))[o]? = some (.int k (f (i + o)))
  | 0, i, o, h => absurd h (Nat.not_lt_zero _)
  | n + 1, i, 0, h => by simp [numRows, arrFlat, rowCells, coerce, AV.asInt]
  | n + 1, i, o + 1, h => by
    simp only [numRows, arrFlat, rowCells]
    show (arrFlat [.int k] n (numRows k f n (i + 1)))[o]? = _
    rw [numRows_flat k f n (i + 1) o (by omega), show i + 1 + o = i + (o + 1) by omega]
theorem arrFlat_len1 (k : IntKind) : ∀ (n : Nat) (d : List (List AV)), (arrFlat [.int k] n d).length = n := fun n d => by
  rw [arrFlat_length]; simp
/-- A row of numbers in memory: its block stands. -/
theorem slAt_blk {w : World} {k : IntKind} {n : Nat} {f : Nat → BitVec k.bits} {v : Value} (h : SlAt w k v (.row n f)) :
    ∃ l : Loc, l.rw = false ∧ (∀ ρ : Env, BlkRel ρ w l (Sl.blk k (.row n f))) ∧ ∀ (ρ : Env) (x : Nat), ρ x = some l → VR ρ ((Sl.row n f).av x) v := by
  obtain ⟨b, off, cap, rfl, h1, h2, c, e, fr, h3, h4⟩ := h
  refine ⟨⟨b, off, 0, false⟩, rfl, fun ρ => ⟨c, e, fr, h3, rfl, fun h => by simp [Sl.blk] at h, fun o v hv => ?_⟩, fun ρ x hx => ?_⟩
  · simp only [Sl.blk, flat, List.append_nil] at hv
    have ho : o < n := by
      have := (List.getElem?_eq_some_iff.1 hv).1
      rwa [arrFlat_len1] at this
    rw [numRows_flat k f n 0 o ho] at hv
    simp only [Option.some.injEq] at hv
    subst hv
    refine ⟨_, h4 o ho, ?_⟩
    simp [VR]
  · simp only [Sl.av, VR]
    exact ⟨_, cap, hx, h1, h2, fun h => by simp at h, by simp [Loc.addr, AP.pos]⟩
/-- Some rows, of kinds. -/
abbrev SlK := (k : IntKind) × Sl k.bits
def slHs : Nat → List SlK → Heap
  | _, [] => []
  | x, ⟨_, .nil⟩ :: r => slHs (x + 1) r
  | x, ⟨k, .row n f⟩ :: r => (x, Sl.blk k (.row n f)) :: slHs (x + 1) r
def slAvs : Nat → List SlK → List AV
  | _, [] => []
  | x, s :: r => s.2.av x :: slAvs (x + 1) r
def SlAts (w : World) : List SlK → List Value → Prop
  | [], vs => vs = []
  | s :: r, vs => ∃ v t, vs = v :: t ∧ SlAt w s.1 v s.2 ∧ SlAts w r t
theorem slAvs_congr {ρ ρ' : Env} : ∀ (L : List SlK) (x : Nat) (vs : List Value), (∀ y, x ≤ y → ρ y = ρ' y) → VRs ρ (slAvs x L) vs → VRs ρ' (slAvs x L) vs
  | [], x, vs, _, h => h
  | ⟨k, s⟩ :: r, x, vs, hy, h => by
    simp only [slAvs] at h ⊢
    obtain ⟨v, t, rfl, h1, h2⟩ := VRs_cons.1 h
    refine VRs_cons' ?_ (slAvs_congr r (x + 1) t (fun y h => hy y (by omega)) h2)
    cases s with
    | nil => exact h1
    | row n f => simp only [Sl.av, VR] at h1 ⊢; rw [← hy x (Nat.le_refl _)]; exact h1
theorem slices_env {w : World} : ∀ (L : List SlK) (x : Nat) (vs : List Value), SlAts w L vs → ∃ ρ : Env, (∀ y, y < x ∨ x + L.length ≤ y → ρ y = none) ∧ (∀ y l, ρ y = some l → l.rw = false) ∧
    (∀ y b, (slHs x L).find y = some b → x ≤ y ∧ ∃ l, ρ y = some l ∧ ∀ ρ' : Env, BlkRel ρ' w l b) ∧ VRs ρ (slAvs x L) vs
  | [], x, vs, h => by
    refine ⟨fun _ => none, fun _ _ => rfl, fun y l h => by simp at h, fun y b h => by simp [slHs, Heap.find] at h, ?_⟩
    simp only [SlAts] at h; subst h; simp [slAvs]
  | ⟨k, .nil⟩ :: r, x, vs, h => by
    obtain ⟨v, t, rfl, h1, h2⟩ := h
    obtain ⟨ρ, e1, e2, e3, e4⟩ := slices_env r (x + 1) t h2
    refine ⟨ρ, fun y hy => e1 y (by simp at hy; omega), e2, fun y b hb => ?_, VRs_cons' ?_ e4⟩
    · obtain ⟨g1, g2⟩ := e3 y b hb
      exact ⟨by omega, g2⟩
    · exact h1
  | ⟨k, .row n f⟩ :: r, x, vs, h => by
    obtain ⟨v, t, rfl, h1, h2⟩ := h
    obtain ⟨ρ, e1, e2, e3, e4⟩ := slices_env r (x + 1) t h2
    obtain ⟨l, g1, g2, g3⟩ := slAt_blk h1
    refine ⟨fun y => if y = x then some l else ρ y, fun y hy => ?_, fun y l' hl => ?_, fun y b hb => ?_, VRs_cons' (g3 _ x (by simp)) (slAvs_congr r (x + 1) t (fun y hy => by simp [show ¬ y = x by omega]) e4)⟩
    · have hne : ¬ y = x := by simp at hy; omega
      simp only [hne, if_false]
      exact e1 y (by simp at hy; omega)
    · by_cases hyx : y = x
      · simp only [hyx, if_true, Option.some.injEq] at hl; subst hl; exact g1
      · simp only [hyx, if_false] at hl; exact e2 y l' hl
    · simp only [slHs] at hb
      by_cases hyx : x = y
      · subst hyx
        rw [find_cons_eq] at hb
        simp only [Option.some.injEq] at hb; subst hb
        exact ⟨Nat.le_refl _, l, by simp, g2⟩
      · rw [find_cons_ne _ _ hyx] at hb
        obtain ⟨q1, l', q2, q3⟩ := e3 y b hb
        exact ⟨by omega, l', by simp only [show ¬ y = x from fun h => hyx h.symm, if_false]; exact q2, q3⟩
/-- Rows in memory, and what stands beside them. -/
theorem slices_inv {w : World} {L : List SlK} {vs : List Value} (h : SlAts w L vs) : ∃ ρ : Env, FreshI ρ L.length ∧ (∀ y l, ρ y = some l → l.rw = false) ∧ Inv ρ (slHs 0 L) w ∧ VRs ρ (slAvs 0 L) vs := by
  obtain ⟨ρ, e1, e2, e3, e4⟩ := slices_env L 0 vs h
  refine ⟨ρ, fun y hy => e1 y (.inr (by omega)), e2, ⟨fun y b hb => ?_, fun y z by' bz ly lz _ _ hy _ hr => ?_⟩, e4⟩
  · obtain ⟨_, l, q1, q2⟩ := e3 y b hb
    exact ⟨l, q1, q2 ρ⟩
  · rw [e2 y ly hy] at hr; simp at hr
end Go.Sx

/- Laws whose arguments are rows of records (numbers and truths) in memory: the arguments opened. -/
namespace Go.Sx
open Go Go.RowKit Go.ChangeShapes Go.WideShapes Go.Deep

/-- A row: nil, or so many records. -/
inductive Rw where
  | nil
  | row (n : Nat) (d : List (List AV))
def Rw.av (x m : Nat) : Rw → AV
  | .nil => .nilslice
  | .row n _ => .slice ⟨x, 0, 0, m, 0⟩ m n
def Rw.blk (sh : List CK) : Rw → Blk
  | .nil => ⟨false, []⟩
  | .row n d => ⟨false, [.arr sh n d]⟩
/-- The kinds of a record's parts, one cell each, in their order. -/
def flatK (P : Program) : List Field → Nat → Option (List CK)
  | [], _ => some []
  | f :: r, i => bif Nat.beq f.offset i && Nat.beq (P.cellsOf f.type) 1 then match P.underlying f.type, flatK P r (i + 1) with
      | some (.int k), some l => some (.int k :: l)
      | some .bool, some l => some (.bool :: l)
      | _, _ => none
    else none
def rowK (P : Program) (e : TypeId) : Option (List CK) := match P.underlying e with
  | some (.int k) => bif Nat.beq (P.cellsOf e) 1 then some [.int k] else none
  | some .bool => bif Nat.beq (P.cellsOf e) 1 then some [.bool] else none
  | some (.struct fs) => match flatK P fs.toList 0 with
    | some l => bif Nat.beq (P.cellsOf e) l.length then some l else none
    | none => none
  | _ => none

section
variable {H : Type} {enc : TypeId × Value → H} {P : Program} {w : World} {base : Nat} {spare : Nat → Bool} {held : Bool} {fuel : Nat}
theorem flatK_open {cs : List Value} : ∀ {fs : List Field} {i : Nat} {l : List CK}, flatK P fs i = some l →
    (∀ (j : Nat) (f : Field), fs[j]? = some f → ∃ n x, DataW.trod enc P w base spare held n f.type ((cs.drop f.offset).take (P.cellsOf f.type)) = some x) → (cs.drop i).length = l.length → ∃ vs : List AV, fitsRow l vs = true ∧ ∀ ρ : Env, VRs ρ vs (cs.drop i)
  | [], i, l, hl, hx, hn => by
    simp only [flatK, Option.some.injEq] at hl; subst hl
    refine ⟨[], rfl, fun ρ => ?_⟩
    have e : cs.drop i = [] := List.eq_nil_of_length_eq_zero hn
    rw [e]; simp
  | f :: fs, i, l, hl, hx, hn => by
    unfold flatK at hl
    cases hc : (Nat.beq f.offset i && Nat.beq (P.cellsOf f.type) 1) with
    | false => rw [hc] at hl; simp at hl
    | true =>
      rw [hc] at hl
      simp only [cond_true] at hl
      simp only [Bool.and_eq_true, beq_true] at hc
      obtain ⟨h1, h2⟩ := hc
      obtain ⟨n, x, hq⟩ := hx 0 f rfl
      rw [h1, h2] at hq
      split at hl
      · rename_i k r hk hr
        simp only [Option.some.injEq] at hl; subst hl
        obtain ⟨z, hz, _, hw⟩ := DataW.trod_int hk hq
        have hd : cs.drop i = .int k z :: cs.drop (i + 1) := by
          cases hcs : cs.drop i with
          | nil => rw [hcs] at hz; simp at hz
          | cons a t =>
            rw [hcs] at hz
            simp at hz
            rw [← hz]
            congr 1
            rw [← List.drop_drop, hcs]; rfl
        obtain ⟨vs, v1, v2⟩ := flatK_open hr (fun j g hg => hx (j + 1) g (by simpa using hg)) (by rw [hd] at hn; simpa using hn)
        refine ⟨.int k (BitVec.ofInt k.bits z) :: vs, by simp [fitsRow, fits, v1], fun ρ => ?_⟩
        rw [hd]
        exact VRs_cons' (by simp [VR, den_of_has (by simpa [Lit.wf, IntKind.has] using hw : k.has z)]) (v2 ρ)
      · rename_i r hk hr
        simp only [Option.some.injEq] at hl; subst hl
        obtain ⟨z, hz, _⟩ := DataW.trod_bool hk hq
        have hd : cs.drop i = .bool z :: cs.drop (i + 1) := by
          cases hcs : cs.drop i with
          | nil => rw [hcs] at hz; simp at hz
          | cons a t =>
            rw [hcs] at hz
            simp at hz
            rw [← hz]
            congr 1
            rw [← List.drop_drop, hcs]; rfl
        obtain ⟨vs, v1, v2⟩ := flatK_open hr (fun j g hg => hx (j + 1) g (by simpa using hg)) (by rw [hd] at hn; simpa using hn)
        refine ⟨.bool z :: vs, by simp [fitsRow, fits, v1], fun ρ => ?_⟩
        rw [hd]
        exact VRs_cons' (by simp [VR]) (v2 ρ)
      · simp at hl
theorem rowK_open {e : TypeId} {l : List CK} {cs : List Value} {n : Nat} {x : DataW H × List MemPlace} (he : rowK P e = some l) (hq : DataW.trod enc P w base spare held n e cs = some x) : P.cellsOf e = l.length ∧ ∃ vs : List AV, fitsRow l vs = true ∧ ∀ ρ : Env, VRs ρ vs cs := by
  unfold rowK at he
  split at he
  · rename_i k hk
    cases hb : Nat.beq (P.cellsOf e) 1 with
    | false => rw [hb] at he; simp at he
    | true =>
      rw [hb] at he
      simp only [cond_true, Option.some.injEq] at he; subst he
      rw [beq_true] at hb
      obtain ⟨z, hz, _, hw⟩ := DataW.trod_int hk hq
      refine ⟨hb, [.int k (BitVec.ofInt k.bits z)], by simp [fitsRow, fits], fun ρ => ?_⟩
      rw [hz]
      exact VRs_cons' (by simp [VR, den_of_has (by simpa [Lit.wf, IntKind.has] using hw : k.has z)]) (by simp)
  · rename_i hk
    cases hb : Nat.beq (P.cellsOf e) 1 with
    | false => rw [hb] at he; simp at he
    | true =>
      rw [hb] at he
      simp only [cond_true, Option.some.injEq] at he; subst he
      rw [beq_true] at hb
      obtain ⟨z, hz, _⟩ := DataW.trod_bool hk hq
      refine ⟨hb, [.bool z], by simp [fitsRow, fits], fun ρ => ?_⟩
      rw [hz]
      exact VRs_cons' (by simp [VR]) (by simp)
  · rename_i fs hk
    split at he
    · rename_i r hr
      cases hb : Nat.beq (P.cellsOf e) r.length with
      | false => rw [hb] at he; simp at he
      | true =>
        rw [hb] at he
        simp only [cond_true, Option.some.injEq] at he; subst he
        rw [beq_true] at hb
        obtain ⟨xs, m, rfl, rfl, h3, h4, h5⟩ := DataW.trod_struct hk hq
        obtain ⟨vs, v1, v2⟩ := flatK_open (cs := cs) (enc := enc) (w := w) (base := base) (spare := spare) (held := held) hr (fun j f hf => by
          have hf' : fs[j]? = some f := by simpa using hf
          have := h5 j f hf'
          have hj : j < fs.size := (Array.getElem?_eq_some_iff.1 hf').1
          rw [List.getElem?_eq_getElem (by omega)] at this
          exact ⟨m, _, this⟩) (by simp [h3, hb])
        exact ⟨hb, vs, v1, fun ρ => by simpa using v2 ρ⟩
    · simp at he
  · simp at he
/-- A row, where it stands. -/
def RwAt (w : World) (sh : List CK) (v : Value) : Rw → Prop
  | .nil => v = .slice none 0 0
  | .row n d => d.length = n ∧ fitsAll sh d = true ∧ ∃ b off cap, v = .slice (some ⟨b, off, none⟩) n cap ∧ n ≤ cap ∧ cap < 2 ^ 63 ∧ ∃ c e fr, w.heap[b]? = some (.cells c e fr) ∧
      ∀ i, i < n → ∀ j, j < sh.length → ∃ x, c[off + (i * sh.length + j)]? = some x ∧ ∀ ρ : Env, ∃ v, (rowCells sh (d.getD i []))[j]? = some v ∧ VR ρ v x
theorem VRs_at {ρ : Env} : ∀ {vs : List AV} {xs : List Value} {j : Nat}, VRs ρ vs xs → j < vs.length → ∃ v x, vs[j]? = some v ∧ xs[j]? = some x ∧ VR ρ v x
  | [], xs, j, h, hj => absurd hj (Nat.not_lt_zero _)
  | v :: vs, xs, j, h, hj => by
    obtain ⟨y, t, rfl, h1, h2⟩ := VRs_cons.1 h
    cases j with
    | zero => exact ⟨v, y, rfl, rfl, h1⟩
    | succ j => simpa using VRs_at h2 (by simpa using hj)
theorem fitsAll_of {sh : List CK} : ∀ {d : List (List AV)}, (∀ r ∈ d, fitsRow sh r = true) → fitsAll sh d = true
  | [], _ => rfl
  | r :: d, h => by
    have h2 : fitsAll sh d = true := fitsAll_of (fun r' hr => h r' (List.mem_cons_of_mem _ hr))
    simp [fitsAll, h r (List.mem_cons_self ..), h2]
theorem row_open {r : Reach} {b0 : Nat} {t e : TypeId} {sh : List CK} {v : Value} {d : DataW H} {ps : List MemPlace} (ht : P.underlying t = some (.slice e)) (he : rowK P e = some sh)
    (hval : Value.okWide P w r b0 t v) (hd : DataW.Trod enc P w base spare held t v d ps) : ∃ s : Rw, RwAt w sh v s := by
  obtain ⟨a0, len0, cap0, rfl⟩ := okWide_slice ht hval
  obtain ⟨fuel, hf⟩ := hd
  rcases open_slice ht hf with ⟨h, _⟩ | ⟨a, len, cap, m, n, D, Pl, h, hb, hl, hcm, hm, _, hx⟩
  · simp [Value.cells] at h
    exact ⟨.nil, by simp [RwAt, h]⟩
  · simp [Value.cells] at h
    obtain ⟨rfl, rfl, rfl⟩ := h
    unfold Value.okWide Cell.okWide Cell.ok World.has at hval
    simp only [ht] at hval
    obtain ⟨h1, h2, _, hspot, row, cells, hsh, _⟩ := hval
    obtain ⟨b, off, spot⟩ := a
    simp only at hspot
    subst hspot
    have hcell : ∃ c e fr, w.heap[b]? = some (.cells c e fr) := by
      unfold World.shape? at hsh
      split at hsh
      · rename_i c e fr hh; exact ⟨c, e, fr, hh⟩
      · simp at hsh
    obtain ⟨c, et, fr, hh⟩ := hcell
    have hV : ∀ i, i < len0 → ∃ vs : List AV, fitsRow sh vs = true ∧ ∀ j, j < sh.length → ∃ x, c[off + (i * sh.length + j)]? = some x ∧ ∀ ρ : Env, ∃ v, vs[j]? = some v ∧ VR ρ v x := fun i hi => by
      have hmm : i < m := by rw [hm]; split <;> omega
      obtain ⟨cs', hcs, htr⟩ := hx i hmm
      obtain ⟨hlen, vs, hv1, hv2⟩ := rowK_open he htr
      obtain ⟨_, hl2, hget⟩ := World.cells?_some hcs
      refine ⟨vs, hv1, fun j hj => ?_⟩
      have hjl : j < vs.length := by rw [fitsRow_length hv1]; exact hj
      have hg := hget j (by rw [hlen]; exact hj)
      have hjc : j < cs'.length := by rw [hl2, hlen]; exact hj
      rw [List.getElem?_eq_getElem hjc] at hg
      rw [add_plain, add_plain] at hg
      unfold World.cell? at hg
      simp only [hh, Option.isSome_none, Bool.false_eq_true, if_false] at hg
      refine ⟨cs'[j], by rw [← hlen, ← Nat.add_assoc]; exact hg, fun ρ => ?_⟩
      obtain ⟨v, x, q1, q2, q3⟩ := VRs_at (hv2 ρ) hjl
      rw [List.getElem?_eq_getElem hjc] at q2
      simp only [Option.some.injEq] at q2
      exact ⟨v, q1, q2 ▸ q3⟩
    let f : Nat → List AV := fun i => if h : i < len0 then (hV i h).choose else []
    have hf : ∀ i (h : i < len0), f i = (hV i h).choose := fun i h => by simp [f, h]
    refine ⟨.row len0 ((List.range len0).map f), by simp, fitsAll_of (fun r hr => ?_), b, off, cap0, rfl, h1, by
      have : IntKind.i64.max = 2 ^ 63 - 1 := by decide
      rw [this] at h2; omega, c, et, fr, hh, fun i hi j hj => ?_⟩
    · simp only [List.mem_map, List.mem_range] at hr
      obtain ⟨i, hi, rfl⟩ := hr
      rw [hf i hi]; exact (hV i hi).choose_spec.1
    · obtain ⟨x, q1, q2⟩ := (hV i hi).choose_spec.2 j hj
      refine ⟨x, q1, fun ρ => ?_⟩
      have e1 : ((List.range len0).map f).getD i [] = f i := by simp [List.getD, hi]
      rw [e1, hf i hi, rowCells_fits (hV i hi).choose_spec.1]
      exact q2 ρ
end
/-- A row in memory: its block stands. -/
theorem rwAt_blk {w : World} {sh : List CK} (hsh : sh ≠ []) {n : Nat} {d : List (List AV)} {v : Value} (h : RwAt w sh v (.row n d)) :
    ∃ l : Loc, l.rw = false ∧ (∀ ρ : Env, BlkRel ρ w l (Rw.blk sh (.row n d))) ∧ ∀ (ρ : Env) (x : Nat), ρ x = some l → VR ρ ((Rw.row n d).av x sh.length) v := by
  obtain ⟨_, _, b, off, cap, rfl, h1, h2, c, e, fr, h3, h4⟩ := h
  have hpos : 0 < sh.length := by cases sh <;> simp_all
  refine ⟨⟨b, off, 0, false⟩, rfl, fun ρ => ⟨c, e, fr, h3, rfl, fun h => by simp [Rw.blk] at h, fun o v hv => ?_⟩, fun ρ x hx => ?_⟩
  · simp only [Rw.blk, flat, List.append_nil] at hv
    have ho : o < n * sh.length := by
      have := (List.getElem?_eq_some_iff.1 hv).1
      rwa [arrFlat_length] at this
    have hi : o / sh.length < n := (Nat.div_lt_iff_lt_mul hpos).2 ho
    have hj : o % sh.length < sh.length := Nat.mod_lt _ hpos
    have he : o = o / sh.length * sh.length + o % sh.length := by rw [Nat.mul_comm]; exact (Nat.div_add_mod _ _).symm
    rw [he, arrFlat_get sh n d _ _ hi hj] at hv
    obtain ⟨x, q1, q2⟩ := h4 _ hi _ hj
    obtain ⟨v', q3, q4⟩ := q2 ρ
    rw [hv] at q3
    simp only [Option.some.injEq] at q3
    refine ⟨x, by rw [he]; exact q1, q3 ▸ q4⟩
  · simp only [Rw.av, VR]
    exact ⟨_, cap, hx, h1, h2, fun h => by simp at h, by simp [Loc.addr, AP.pos]⟩
/-- Some arguments: plain values, or rows of records; a row at place i has the name i. -/
inductive Ag where
  | val (v : AV)
  | rw (sh : List CK) (s : Rw)
def agHs : Nat → List Ag → Heap
  | _, [] => []
  | x, .val _ :: r => agHs (x + 1) r
  | x, .rw _ .nil :: r => agHs (x + 1) r
  | x, .rw sh (.row n d) :: r => (x, Rw.blk sh (.row n d)) :: agHs (x + 1) r
def agAvs : Nat → List Ag → List AV
  | _, [] => []
  | x, .val v :: r => v :: agAvs (x + 1) r
  | x, .rw sh s :: r => s.av x sh.length :: agAvs (x + 1) r
def AgOk (w : World) : List Ag → List Value → Prop
  | [], vs => vs = []
  | .val a :: r, vs => ∃ v t, vs = v :: t ∧ a.names = [] ∧ VR (fun _ => none) a v ∧ AgOk w r t
  | .rw sh s :: r, vs => ∃ v t, vs = v :: t ∧ sh ≠ [] ∧ RwAt w sh v s ∧ AgOk w r t
theorem agAvs_congr {ρ ρ' : Env} : ∀ (L : List Ag) (x : Nat) (vs : List Value) (w : World), AgOk w L vs → (∀ y, x ≤ y → ρ y = ρ' y) → VRs ρ (agAvs x L) vs → VRs ρ' (agAvs x L) vs
  | [], x, vs, w, _, _, h => h
  | .val a :: r, x, vs, w, ho, hy, h => by
    obtain ⟨v, t, rfl, hn, hv, hr⟩ := ho
    simp only [agAvs] at h ⊢
    obtain ⟨v', t', e, h1, h2⟩ := VRs_cons.1 h
    simp only [List.cons.injEq] at e
    obtain ⟨rfl, rfl⟩ := e
    refine VRs_cons' ?_ (agAvs_congr r (x + 1) _ w hr (fun y h => hy y (by omega)) h2)
    exact VR_mono (fun _ _ h => by simp at h) _ _ hv
  | .rw sh s :: r, x, vs, w, ho, hy, h => by
    obtain ⟨v, t, rfl, hn, hv, hr⟩ := ho
    simp only [agAvs] at h ⊢
    obtain ⟨v', t', e, h1, h2⟩ := VRs_cons.1 h
    simp only [List.cons.injEq] at e
    obtain ⟨rfl, rfl⟩ := e
    refine VRs_cons' ?_ (agAvs_congr r (x + 1) _ w hr (fun y h => hy y (by omega)) h2)
    cases s with
    | nil => exact h1
    | row n d => simp only [Rw.av, VR] at h1 ⊢; rw [← hy x (Nat.le_refl _)]; exact h1
theorem args_env {w : World} : ∀ (L : List Ag) (x : Nat) (vs : List Value), AgOk w L vs → ∃ ρ : Env, (∀ y, y < x ∨ x + L.length ≤ y → ρ y = none) ∧ (∀ y l, ρ y = some l → l.rw = false) ∧
    (∀ y b, (agHs x L).find y = some b → x ≤ y ∧ ∃ l, ρ y = some l ∧ ∀ ρ' : Env, BlkRel ρ' w l b) ∧ VRs ρ (agAvs x L) vs
  | [], x, vs, h => by
    refine ⟨fun _ => none, fun _ _ => rfl, fun y l h => by simp at h, fun y b h => by simp [agHs, Heap.find] at h, ?_⟩
    simp only [AgOk] at h; subst h; simp [agAvs]
  | .val a :: r, x, vs, h => by
    obtain ⟨v, t, rfl, hn, hv, h2⟩ := h
    obtain ⟨ρ, e1, e2, e3, e4⟩ := args_env r (x + 1) t h2
    refine ⟨ρ, fun y hy => e1 y (by simp at hy; omega), e2, fun y b hb => ?_, VRs_cons' ?_ e4⟩
    · obtain ⟨g1, g2⟩ := e3 y b hb
      exact ⟨by omega, g2⟩
    · exact VR_mono (fun _ _ h => by simp at h) _ _ hv
  | .rw sh .nil :: r, x, vs, h => by
    obtain ⟨v, t, rfl, _, h1, h2⟩ := h
    obtain ⟨ρ, e1, e2, e3, e4⟩ := args_env r (x + 1) t h2
    refine ⟨ρ, fun y hy => e1 y (by simp at hy; omega), e2, fun y b hb => ?_, VRs_cons' ?_ e4⟩
    · obtain ⟨g1, g2⟩ := e3 y b hb
      exact ⟨by omega, g2⟩
    · exact h1
  | .rw sh (.row n d) :: r, x, vs, h => by
    obtain ⟨v, t, rfl, hsh, h1, h2⟩ := h
    obtain ⟨ρ, e1, e2, e3, e4⟩ := args_env r (x + 1) t h2
    obtain ⟨l, g1, g2, g3⟩ := rwAt_blk hsh h1
    refine ⟨fun y => if y = x then some l else ρ y, fun y hy => ?_, fun y l' hl => ?_, fun y b hb => ?_, VRs_cons' (g3 _ x (by simp)) (agAvs_congr r (x + 1) t w h2 (fun y hy => by simp [show ¬ y = x by omega]) e4)⟩
    · have hne : ¬ y = x := by simp at hy; omega
      simp only [hne, if_false]
      exact e1 y (by simp at hy; omega)
    · by_cases hyx : y = x
      · simp only [hyx, if_true, Option.some.injEq] at hl; subst hl; exact g1
      · simp only [hyx, if_false] at hl; exact e2 y l' hl
    · simp only [agHs] at hb
      by_cases hyx : x = y
      · subst hyx
        rw [find_cons_eq] at hb
        simp only [Option.some.injEq] at hb; subst hb
        exact ⟨Nat.le_refl _, l, by simp, g2⟩
      · rw [find_cons_ne _ _ hyx] at hb
        obtain ⟨q1, l', q2, q3⟩ := e3 y b hb
        exact ⟨by omega, l', by simp only [show ¬ y = x from fun h => hyx h.symm, if_false]; exact q2, q3⟩
/-- Arguments, and the memory beside them. -/
theorem args_inv {w : World} {L : List Ag} {vs : List Value} (h : AgOk w L vs) : ∃ ρ : Env, FreshI ρ L.length ∧ (∀ y l, ρ y = some l → l.rw = false) ∧ Inv ρ (agHs 0 L) w ∧ VRs ρ (agAvs 0 L) vs := by
  obtain ⟨ρ, e1, e2, e3, e4⟩ := args_env L 0 vs h
  refine ⟨ρ, fun y hy => e1 y (.inr (by omega)), e2, ⟨fun y b hb => ?_, fun y z by' bz ly lz _ _ hy _ hr => ?_⟩, e4⟩
  · obtain ⟨_, l, q1, q2⟩ := e3 y b hb
    exact ⟨l, q1, q2 ρ⟩
  · rw [e2 y ly hy] at hr; simp at hr
/-- A law over rows answers true. -/
theorem calls_trueR {P : Program} {C : Oracle} (hC : Snd P C) {F : Cfg} {g : FuncId} {fn : Func} (hfn : P.funcs[g]? = some fn) {L : List Ag} (w : World) {vs : Array Value} (hL : AgOk w L vs.toList)
    (h : runS P C F fn (agAvs 0 L) (agHs 0 L) L.length = some (.bool true)) (hF : FOK P fn F := by first | exact fok_nil rfl | assumption) :
    Calls P g vs w (fun e w' => e = .returned (.bool true) ∧ Below w.heap.size w w') := by
  obtain ⟨ρ, h1, h2, h3, h4⟩ := args_inv hL
  exact calls_trueS hC hfn h w h1 h2 h3 h4 hF
/-! ### the arguments of a row, opened -/
inductive AgS where
  | val (s : Shp)
  | rw (sh : List CK)
def agOf (P : Program) (t : TypeId) : Option AgS := match P.underlying t with
  | some (.slice e) => match rowK P e with
    | some (c :: sh) => some (.rw (c :: sh))
    | _ => none
  | _ => (shpOf P t).map .val
def agsOf (P : Program) : List TypeId → Option (List AgS)
  | [] => some []
  | t :: l => match agOf P t, agsOf P l with
    | some s, some r => some (s :: r)
    | _, _ => none
def AgIs : AgS → Ag → Prop
  | .val s, .val a => IsShp s a
  | .rw sh, .rw sh' s => sh' = sh ∧ ∀ n d, s = .row n d → d.length = n ∧ fitsAll sh d = true ∧ n < 2 ^ 63
  | _, _ => False
def AgsAre : List AgS → List Ag → Prop
  | [], L => L = []
  | s :: ss, L => ∃ a r, L = a :: r ∧ AgIs s a ∧ AgsAre ss r
theorem isSc_names {o : Option IntKind} {v : AV} (h : IsSc o v) : v.names = [] := by
  cases o with
  | none => obtain ⟨b, rfl⟩ := h; rfl
  | some k => obtain ⟨x, rfl⟩ := h; rfl
theorem areSc_names : ∀ {os : List (Option IntKind)} {l : List AV}, AreSc os l → AV.namesL l = []
  | [], l, h => by simp only [AreSc] at h; subst h; rfl
  | o :: os, l, h => by
    obtain ⟨v, r, rfl, h1, h2⟩ := h
    simp [AV.namesL, isSc_names h1, areSc_names h2]
theorem isShp_names {s : Shp} {v : AV} (h : IsShp s v) : v.names = [] := by
  cases s with
  | sc o => exact isSc_names h
  | row l => obtain ⟨r, rfl, hr⟩ := h; simp only [AV.names]; exact areSc_names hr
section
variable {H : Type} {enc : TypeId × Value → H} {P : Program} {w : World} {base : Nat} {spare : Nat → Bool} {held : Bool} {r : Reach} {b0 : Nat}
theorem ag_open {t : TypeId} {s : AgS} {v : Value} {d : DataW H} {ps : List MemPlace} (hs : agOf P t = some s) (hval : Value.okWide P w r b0 t v) (hd : DataW.Trod enc P w base spare held t v d ps) :
    ∃ a : Ag, AgIs s a ∧ ∀ L vs, AgOk w L vs → AgOk w (a :: L) (v :: vs) := by
  unfold agOf at hs
  split at hs
  · rename_i e ht
    split at hs
    · rename_i c sh he
      simp only [Option.some.injEq] at hs; subst hs
      obtain ⟨s, hs⟩ := row_open (enc := enc) ht he hval hd
      refine ⟨.rw (c :: sh) s, ⟨rfl, fun n d h => ?_⟩, fun L vs h => ⟨v, vs, rfl, by simp, hs, h⟩⟩
      subst h
      obtain ⟨h1, h2, b, off, cap, _, h4, h5, _⟩ := hs
      exact ⟨h1, h2, by omega⟩
    · simp at hs
  · cases hsh : shpOf P t with
    | none => rw [hsh] at hs; simp at hs
    | some s' =>
      rw [hsh] at hs
      simp only [Option.map_some, Option.some.injEq] at hs; subst hs
      obtain ⟨a, ha, hi⟩ := shp_open (ρ := fun _ => none) hsh hval
      exact ⟨.val a, hi, fun L vs h => ⟨v, vs, rfl, isShp_names hi, ha, h⟩⟩
theorem ags_open : ∀ {ts : List TypeId} {ss : List AgS} {vs : List Value} {ds : List (DataW H)} {ps : List MemPlace}, agsOf P ts = some ss → DataW.TrodAll enc P w base spare held ts vs ds ps →
    (∀ (j : Nat) t v, ts[j]? = some t → vs[j]? = some v → Value.okWide P w r b0 t v) → ∃ L : List Ag, AgOk w L vs ∧ AgsAre ss L
  | [], ss, vs, ds, ps, hs, hA, h => by
    simp only [agsOf, Option.some.injEq] at hs; subst hs
    obtain ⟨rfl, rfl, rfl⟩ := trodAll_nil hA
    exact ⟨[], rfl, rfl⟩
  | t :: ts, ss, vs, ds, ps, hs, hA, h => by
    obtain ⟨v, vs1, d, ds1, a, b, rfl, rfl, rfl, h1, h2⟩ := trodAll_cons hA
    unfold agsOf at hs
    split at hs
    · rename_i s rr hs1 hs2
      simp only [Option.some.injEq] at hs; subst hs
      obtain ⟨L, hL, hss⟩ := ags_open hs2 h2 (fun j t' v' ht hv => h (j + 1) t' v' (by simpa using ht) (by simpa using hv))
      obtain ⟨a, ha, hk⟩ := ag_open (enc := enc) hs1 (h 0 t v rfl rfl) h1
      exact ⟨a :: L, hk L vs1 hL, a, L, rfl, ha, hss⟩
    · simp at hs
end
theorem agIs_val {s : Shp} {a : Ag} (h : AgIs (.val s) a) : ∃ v, a = .val v ∧ IsShp s v := by
  cases a with
  | val v => exact ⟨v, rfl, h⟩
  | rw _ _ => exact h.elim
theorem agIs_rw {sh : List CK} {a : Ag} (h : AgIs (.rw sh) a) : ∃ s, a = .rw sh s ∧ ∀ n d, s = .row n d → d.length = n ∧ fitsAll sh d = true ∧ n < 2 ^ 63 := by
  cases a with
  | val v => exact h.elim
  | rw sh' s => obtain ⟨rfl, h2⟩ := h; exact ⟨s, rfl, h2⟩
end Go.Sx

/- Entries for functions of the library that have no Go body. -/
namespace Go.Sx
open Go

def add64S : List AV → Option AV
  | [.int .u64 x, .int .u64 y, .int .u64 c] => bif Nat.beq c.toNat 0 then some (.tup [.int .u64 (x + y), .int .u64 (bif BitVec.ult (x + y) x then 1#64 else 0#64)]) else none
  | _ => none

theorem add64_ok {P : Program} {g : FuncId} {fn : Func} (hfn : P.funcs[g]? = some fn) (hname : (fn.name == "runtime.NumGoroutine") = false) (hb : fn.body.isNone = true) (hn : Extern.findNext fn = none) (he : Extern.find fn = some add64Entry) : PureOK P g add64S := by
  intro args v hv H N ρ w vs hvs hi hf
  unfold add64S at hv
  split at hv
  · rename_i x y c
    cases hc : Nat.beq c.toNat 0 with
    | false => rw [hc] at hv; simp at hv
    | true =>
      rw [hc] at hv
      simp only [cond_true, Option.some.injEq] at hv
      subst hv
      have hc0 : (BitVec.toNat c) = 0 := Nat.eq_of_beq_eq_true hc
      obtain ⟨a, r1, rfl, ha, h1⟩ := VRs_cons.1 hvs
      obtain ⟨b, r2, rfl, hb2, h2⟩ := VRs_cons.1 h1
      obtain ⟨d, r3, rfl, hd, h3⟩ := VRs_cons.1 h2
      simp only [VRs_nil] at h3
      subst h3
      simp only [VR] at ha hb2 hd
      subst ha; subst hb2; subst hd
      have hx : den .u64 x = (x.toNat : Int) := rfl
      have hy : den .u64 y = (y.toNat : Int) := rfl
      have hz : den .u64 c = 0 := by show ((c.toNat : Nat) : Int) = 0; omega
      unfold Does
      rw [run_callFunc_extern hfn hname hb hn he, hx, hy, hz, run_add64 _ _ _ (by omega) (by omega) (by omega) (by omega)]
      refine Post.same hi ?_
      have hxl : x.toNat < 18446744073709551616 := x.isLt
      have hyl : y.toNat < 18446744073709551616 := y.isLt
      refine ⟨_, rfl, VRs_cons' ?_ (VRs_cons' ?_ (by simp))⟩
      · show _ = Value.int .u64 (((x + y).toNat : Nat) : Int)
        rw [show (x + y).toNat = (x.toNat + y.toNat) % 18446744073709551616 from BitVec.toNat_add x y]
        congr 1
      · show _ = Value.int .u64 ((((bif BitVec.ult (x + y) x then 1#64 else 0#64) : BitVec 64).toNat : Nat) : Int)
        rw [show BitVec.ult (x + y) x = decide ((x.toNat + y.toNat) % 18446744073709551616 < x.toNat) by rw [← show (x + y).toNat = (x.toNat + y.toNat) % 18446744073709551616 from BitVec.toNat_add x y]; rfl]
        by_cases h : (x.toNat + y.toNat) % 18446744073709551616 < x.toNat
        · rw [decide_eq_true h]
          show _ = Value.int .u64 1
          congr 1
          omega
        · rw [decide_eq_false h]
          show _ = Value.int .u64 0
          congr 1
          omega
  · simp at hv
end Go.Sx

/- How many bits a number has: the table of the library's. -/
namespace Go.Sx
open Go
def blen (n : Nat) : Nat := if n = 0 then 0 else Nat.log2 n + 1
theorem blen_shift {n k : Nat} (h : 2 ^ k ≤ n) : blen n = k + blen (n / 2 ^ k) := by
  have hp : 0 < 2 ^ k := Nat.two_pow_pos k
  have h1 : n ≠ 0 := by omega
  have h2 : n / 2 ^ k ≠ 0 := by
    have := Nat.div_pos h hp
    omega
  unfold blen
  rw [if_neg h1, if_neg h2]
  have : Nat.log2 n = k + Nat.log2 (n / 2 ^ k) := by
    have h3 := (Nat.log2_eq_iff h2 (k := Nat.log2 (n / 2 ^ k))).1 rfl
    rw [Nat.log2_eq_iff h1]
    have e := Nat.div_add_mod n (2 ^ k)
    have hm := Nat.mod_lt n hp
    constructor
    · rw [Nat.pow_add]
      calc 2 ^ k * 2 ^ (n / 2 ^ k).log2 ≤ 2 ^ k * (n / 2 ^ k) := Nat.mul_le_mul_left _ h3.1
        _ ≤ n := by omega
    · rw [Nat.add_assoc, Nat.pow_add]
      calc n < 2 ^ k * (n / 2 ^ k + 1) := by rw [Nat.mul_add]; omega
        _ ≤ 2 ^ k * 2 ^ ((n / 2 ^ k).log2 + 1) := Nat.mul_le_mul_left _ h3.2
  omega

def tb : ByteArray := ByteArray.mk ((List.replicate 1 (0:UInt8) ++ List.replicate 1 1 ++ List.replicate 2 2 ++ List.replicate 4 3 ++ List.replicate 8 4 ++ List.replicate 16 5 ++ List.replicate 32 6 ++ List.replicate 64 7 ++ List.replicate 128 8).toArray)
set_option maxRecDepth 100000
theorem tb_ok : ∀ i : Fin 256, (byteAt tb i.val).toNat = blen i.val := by decide +kernel
theorem tb_size : tb.size = 256 := by decide +kernel
def lleaf (k : BitVec 64) (y : BitVec 64) : Option AV := cond (nonneg .u8 (BitVec.setWidth 8 y) && decide ((BitVec.setWidth 8 y).toNat < tb.size)) (some (.int .i64 (k + BitVec.setWidth 64 (byteAt tb (BitVec.setWidth 8 y).toNat)))) none
/-- What the library's Len64 goes through. -/
def ltree (a : BitVec 64) : Option AV :=
  cond ((4294967296#64).ule a)
    (cond ((65536#64).ule (a >>> 32)) (cond ((256#64).ule (a >>> 32 >>> 16)) (lleaf 56#64 (a >>> 32 >>> 16 >>> 8)) (lleaf 48#64 (a >>> 32 >>> 16))) (cond ((256#64).ule (a >>> 32)) (lleaf 40#64 (a >>> 32 >>> 8)) (lleaf 32#64 (a >>> 32))))
    (cond ((65536#64).ule a) (cond ((256#64).ule (a >>> 16)) (lleaf 24#64 (a >>> 16 >>> 8)) (lleaf 16#64 (a >>> 16))) (cond ((256#64).ule a) (lleaf 8#64 (a >>> 8)) (lleaf 0#64 a)))
end Go.Sx

/- Plain laws of 64-bit numbers. -/
namespace Go.Sx
theorem sleR (x y : BitVec 64) (h : y.toNat < 9223372036854775808) : x.sle y = decide (x.toNat ≤ y.toNat ∨ 9223372036854775808 ≤ x.toNat) := by
  have := x.isLt
  rw [Bool.eq_iff_iff]
  simp [BitVec.sle, BitVec.toInt_eq_toNat_cond]
  (repeat' split) <;> omega
theorem sltR (x y : BitVec 64) (h : y.toNat < 9223372036854775808) : x.slt y = decide (x.toNat < y.toNat ∨ 9223372036854775808 ≤ x.toNat) := by
  have := x.isLt
  rw [Bool.eq_iff_iff]
  simp [BitVec.slt, BitVec.toInt_eq_toNat_cond]
  (repeat' split) <;> omega
theorem sltL (x y : BitVec 64) (h : y.toNat < 9223372036854775808) : y.slt x = decide (y.toNat < x.toNat ∧ x.toNat < 9223372036854775808) := by
  have := x.isLt
  rw [Bool.eq_iff_iff]
  simp [BitVec.slt, BitVec.toInt_eq_toNat_cond]
  (repeat' split) <;> omega
theorem sleL (x y : BitVec 64) (h : y.toNat < 9223372036854775808) : y.sle x = decide (y.toNat ≤ x.toNat ∧ x.toNat < 9223372036854775808) := by
  have := x.isLt
  rw [Bool.eq_iff_iff]
  simp [BitVec.sle, BitVec.toInt_eq_toNat_cond]
  (repeat' split) <;> omega
theorem beqN {n : Nat} (x y : BitVec n) : (x == y) = decide (x.toNat = y.toNat) := by
  rw [Bool.eq_iff_iff]
  simp [← BitVec.toNat_inj]
theorem ultN {n : Nat} (x y : BitVec n) : x.ult y = decide (x.toNat < y.toNat) := rfl
theorem uleN {n : Nat} (x y : BitVec n) : x.ule y = decide (x.toNat ≤ y.toNat) := rfl
/-- A remainder by a number, of one that is not negative. -/
theorem sremN (x y : BitVec 64) (hy : y.toNat < 9223372036854775808) (hx : x.toNat < 9223372036854775808) : x.srem y = x % y := by
  have h1 : x.msb = false := by rw [BitVec.msb_eq_decide]; simp; omega
  have h2 : y.msb = false := by rw [BitVec.msb_eq_decide]; simp; omega
  rw [BitVec.srem_eq, h1, h2]
theorem sdivN (x y : BitVec 64) (hy : y.toNat < 9223372036854775808) (hx : x.toNat < 9223372036854775808) : x.sdiv y = x / y := by
  have h1 : x.msb = false := by rw [BitVec.msb_eq_decide]; simp; omega
  have h2 : y.msb = false := by rw [BitVec.msb_eq_decide]; simp; omega
  rw [BitVec.sdiv_eq, h1, h2]
  rfl
theorem sshN (x : BitVec 64) (k : Nat) (hx : x.toNat < 9223372036854775808) : x.sshiftRight k = x >>> k := by
  have h1 : x.msb = false := by rw [BitVec.msb_eq_decide]; simp; omega
  exact BitVec.sshiftRight_eq_of_msb_false h1
theorem andK (x : BitVec 64) (i : Nat) (hi : i < 64) : (x &&& BitVec.ofNat 64 (2 ^ i - 1)).toNat = x.toNat % 2 ^ i := by
  have : 2 ^ i < 2 ^ 64 := Nat.pow_lt_pow_right (by decide) hi
  have hp : 0 < 2 ^ i := Nat.two_pow_pos i
  simp only [BitVec.toNat_and, BitVec.toNat_ofNat]
  rw [Nat.mod_eq_of_lt (by omega), Nat.and_two_pow_sub_one_eq_mod]
end Go.Sx
namespace Go.Sx
theorem orAdd {n : Nat} (x y : BitVec n) (i : Nat) (hx : x.toNat < 2 ^ i) (hy : y.toNat % 2 ^ i = 0) : (y ||| x).toNat = y.toNat + x.toNat := by
  obtain ⟨q, hq⟩ := Nat.dvd_of_mod_eq_zero hy
  rw [BitVec.toNat_or, hq, Nat.two_pow_add_eq_or_of_lt hx]
theorem lay {x v : BitVec 64} {w at' : Nat} (hx : x.toNat < 2 ^ at') (hv : v.toNat < 2 ^ w) (h : at' + w ≤ 64) (hw : w < 64) : (x ||| (v &&& BitVec.ofNat 64 (2 ^ w - 1)) <<< at').toNat = x.toNat + v.toNat * 2 ^ at' := by
  have h2 : (v &&& BitVec.ofNat 64 (2 ^ w - 1)).toNat = v.toNat := by rw [andK v w hw, Nat.mod_eq_of_lt hv]
  have h3 : ((v &&& BitVec.ofNat 64 (2 ^ w - 1)) <<< at').toNat = v.toNat * 2 ^ at' := by
    rw [BitVec.toNat_shiftLeft, h2, Nat.shiftLeft_eq, Nat.mod_eq_of_lt]
    calc v.toNat * 2 ^ at' < 2 ^ w * 2 ^ at' := Nat.mul_lt_mul_of_pos_right hv (Nat.two_pow_pos _)
      _ = 2 ^ (at' + w) := by rw [← Nat.pow_add]; congr 1; omega
      _ ≤ 2 ^ 64 := Nat.pow_le_pow_right (by decide) h
  rw [BitVec.or_comm, orAdd x _ at' hx (by rw [h3]; simp), h3]; omega
end Go.Sx
namespace Go.Sx
theorem lay' {x v : BitVec 64} {w at' n : Nat} (hn : x.toNat = n) (hx : n < 2 ^ at') (hv : v.toNat < 2 ^ w) (h : at' + w ≤ 64) (hw : w < 64) : (x ||| (v &&& BitVec.ofNat 64 (2 ^ w - 1)) <<< at').toNat = n + v.toNat * 2 ^ at' := by
  subst hn; exact lay hx hv h hw
end Go.Sx
namespace Go.Sx
theorem madd {x y : BitVec 64} {n m : Nat} (k : Nat) (hx : x.toNat = n) (hy : y.toNat = m) (h : n * k + m < 18446744073709551616) (hk : k < 18446744073709551616) : (x * BitVec.ofNat 64 k + y).toNat = n * k + m := by
  subst hx; subst hy
  have h1 : x.toNat * k < 18446744073709551616 := by omega
  rw [BitVec.toNat_add, BitVec.toNat_mul, BitVec.toNat_ofNat, Nat.mod_eq_of_lt hk, Nat.mod_eq_of_lt h1, Nat.mod_eq_of_lt h]
end Go.Sx

/- How many bits a number has: what the library's text answers. -/
namespace Go.Sx
open Go
theorem lleaf_eq (k : Nat) (y : BitVec 64) (hy : y.toNat < 256) (hk : k < 1000) : lleaf (BitVec.ofNat 64 k) y = some (.int .i64 (BitVec.ofNat 64 (k + blen y.toNat))) := by
  have hs : (BitVec.setWidth 8 y).toNat = y.toNat := by rw [BitVec.toNat_setWidth]; exact Nat.mod_eq_of_lt hy
  have hn : nonneg .u8 (BitVec.setWidth 8 y) = true := rfl
  unfold lleaf
  rw [hs, hn, tb_size, decide_eq_true hy]
  simp only [Bool.and_self, cond_true]
  congr 2
  apply BitVec.eq_of_toNat_eq
  have hb : (byteAt tb y.toNat).toNat = blen y.toNat := tb_ok ⟨y.toNat, hy⟩
  have hl := (byteAt tb y.toNat).isLt
  rw [BitVec.toNat_add, BitVec.toNat_setWidth, hb, BitVec.toNat_ofNat, BitVec.toNat_ofNat]
  omega
theorem ltree_eq (a : BitVec 64) : ltree a = some (.int .i64 (BitVec.ofNat 64 (blen a.toNat))) := by
  have ha := a.isLt
  have s16 : (a >>> 16).toNat = a.toNat / 65536 := by simp [Nat.shiftRight_eq_div_pow]
  have s32 : (a >>> 32).toNat = a.toNat / 4294967296 := by simp [Nat.shiftRight_eq_div_pow]
  have s8 : ∀ y : BitVec 64, (y >>> 8).toNat = y.toNat / 256 := fun y => by simp [Nat.shiftRight_eq_div_pow]
  have s16' : ∀ y : BitVec 64, (y >>> 16).toNat = y.toNat / 65536 := fun y => by simp [Nat.shiftRight_eq_div_pow]
  unfold ltree
  simp only [uleN, show (4294967296#64).toNat = 4294967296 from rfl, show (65536#64).toNat = 65536 from rfl, show (256#64).toNat = 256 from rfl, s32, s16', s8]
  by_cases h1 : 4294967296 ≤ a.toNat
  · rw [decide_eq_true h1, cond_true, blen_shift (k := 32) h1]
    by_cases h2 : 65536 ≤ a.toNat / 4294967296
    · rw [decide_eq_true h2, cond_true, blen_shift (n := a.toNat / 2 ^ 32) (k := 16) h2]
      by_cases h3 : 256 ≤ a.toNat / 4294967296 / 65536
      · rw [decide_eq_true h3, cond_true, blen_shift (n := a.toNat / 2 ^ 32 / 2 ^ 16) (k := 8) h3, lleaf_eq 56 _ (by rw [s8, s16', s32]; omega) (by decide), s8, s16', s32]
        rw [show 32 + (16 + (8 + blen (a.toNat / 2 ^ 32 / 2 ^ 16 / 2 ^ 8))) = 56 + blen (a.toNat / 4294967296 / 65536 / 256) by simp only [Nat.reducePow]; omega]
      · rw [decide_eq_false h3, cond_false, lleaf_eq 48 _ (by rw [s16', s32]; omega) (by decide), s16', s32]
        rw [show 32 + (16 + blen (a.toNat / 2 ^ 32 / 2 ^ 16)) = 48 + blen (a.toNat / 4294967296 / 65536) by simp only [Nat.reducePow]; omega]
    · rw [decide_eq_false h2, cond_false]
      by_cases h3 : 256 ≤ a.toNat / 4294967296
      · rw [decide_eq_true h3, cond_true, blen_shift (n := a.toNat / 2 ^ 32) (k := 8) h3, lleaf_eq 40 _ (by rw [s8, s32]; omega) (by decide), s8, s32]
        rw [show 32 + (8 + blen (a.toNat / 2 ^ 32 / 2 ^ 8)) = 40 + blen (a.toNat / 4294967296 / 256) by simp only [Nat.reducePow]; omega]
      · rw [decide_eq_false h3, cond_false, lleaf_eq 32 _ (by rw [s32]; omega) (by decide), s32]
  · rw [decide_eq_false h1, cond_false]
    by_cases h2 : 65536 ≤ a.toNat
    · rw [decide_eq_true h2, cond_true, blen_shift (k := 16) h2]
      by_cases h3 : 256 ≤ a.toNat / 65536
      · rw [decide_eq_true h3, cond_true, blen_shift (n := a.toNat / 2 ^ 16) (k := 8) h3, lleaf_eq 24 _ (by rw [s8, s16']; omega) (by decide), s8, s16']
        rw [show 16 + (8 + blen (a.toNat / 2 ^ 16 / 2 ^ 8)) = 24 + blen (a.toNat / 65536 / 256) by simp only [Nat.reducePow]; omega]
      · rw [decide_eq_false h3, cond_false, lleaf_eq 16 _ (by rw [s16']; omega) (by decide), s16']
    · rw [decide_eq_false h2, cond_false]
      by_cases h3 : 256 ≤ a.toNat
      · rw [decide_eq_true h3, cond_true, blen_shift (k := 8) h3, lleaf_eq 8 _ (by rw [s8]; omega) (by decide), s8]
      · rw [decide_eq_false h3, cond_false, lleaf_eq 0 _ (by omega) (by decide), Nat.zero_add]
/-- How many bits a number has. -/
def v_bits_Len64 (a : BitVec 64) : BitVec 64 := BitVec.ofNat 64 (blen a.toNat)
end Go.Sx


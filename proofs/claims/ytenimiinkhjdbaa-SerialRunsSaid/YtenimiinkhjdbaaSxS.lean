/- Laws whose arguments are rows of numbers in memory: the arguments opened. -/
import Derived.Test.YtenimiinkhjdbaaSxT
import Derived.Deep.Slices
set_option linter.unusedSimpArgs false
set_option linter.unusedVariables false
set_option linter.unnecessarySimpa false
namespace Go.Sx
open Go Go.RowKit Go.ChangeShapes Go.WideShapes Go.Deep

/-- A row of numbers: nil, or so many, by their places. -/
inductive Sl (w : Nat) where
  | nil
  | row (n : Nat) (f : Nat → BitVec w)
def Sl.av {w : Nat} (x : Nat) : Sl w → AV
  | .nil => .nilslice
  | .row n _ => .slice ⟨x, 0, 0, 1, 0⟩ 1 n
def numRows (k : IntKind) (f : Nat → BitVec k.bits) : Nat → Nat → List (List AV)
  | 0, _ => []
  | n + 1, i => [.int k (f i)] :: numRows k f n (i + 1)
def Sl.blk (k : IntKind) : Sl k.bits → Blk
  | .nil => ⟨false, []⟩
  | .row n f => ⟨false, [.arr [.int k] n (numRows k f n 0)]⟩
theorem numRows_get (k : IntKind) (f : Nat → BitVec k.bits) : ∀ (n i j : Nat), j < n → (numRows k f n i).getD j [] = [.int k (f (i + j))]
  | 0, i, j, h => absurd h (Nat.not_lt_zero _)
  | n + 1, i, 0, h => rfl
  | n + 1, i, j + 1, h => by
    show (numRows k f n (i + 1)).getD j [] = _
    rw [numRows_get k f n (i + 1) j (by omega), show i + 1 + j = i + (j + 1) by omega]

section
variable {H : Type} {enc : TypeId × Value → H} {P : Program} {w : World} {base : Nat} {spare : Nat → Bool} {held : Bool}
/-- A row of numbers, where it stands. -/
def SlAt (w : World) (k : IntKind) (v : Value) : Sl k.bits → Prop
  | .nil => v = .slice none 0 0
  | .row n f => ∃ b off cap, v = .slice (some ⟨b, off, none⟩) n cap ∧ n ≤ cap ∧ cap < 2 ^ 63 ∧ ∃ c e fr, w.heap[b]? = some (.cells c e fr) ∧ ∀ i, i < n → c[off + i]? = some (.int k (den k (f i)))
theorem slice_open {r : Reach} {b0 : Nat} {t e : TypeId} {k : IntKind} {v : Value} {d : DataW H} {ps : List MemPlace} (ht : P.underlying t = some (.slice e)) (he : P.underlying e = some (.int k)) (hc : P.cellsOf e = 1)
    (hval : Value.okWide P w r b0 t v) (hd : DataW.Trod enc P w base spare held t v d ps) : ∃ s : Sl k.bits, SlAt w k v s := by
  obtain ⟨a0, len0, cap0, rfl⟩ := okWide_slice ht hval
  obtain ⟨fuel, hf⟩ := hd
  rcases open_slice1 ht hc hf with ⟨h, _⟩ | ⟨a, len, cap, m, n, V, D, Pl, h, hb, hl, hcm, hm, _, hx⟩
  · simp [Value.cells] at h
    exact ⟨.nil, by simp [SlAt, h]⟩
  · simp [Value.cells] at h
    obtain ⟨rfl, rfl, rfl⟩ := h
    unfold Value.okWide Cell.okWide Cell.ok World.has at hval
    simp only [ht] at hval
    obtain ⟨h1, h2, _, hspot, row, cells, hsh, _⟩ := hval
    obtain ⟨b, off, spot⟩ := a
    simp only at hspot
    subst hspot
    have hcell : ∃ c e fr, w.heap[b]? = some (.cells c e fr) := by
      unfold World.shape? at hsh
      split at hsh
      · rename_i c e fr hh; exact ⟨c, e, fr, hh⟩
      · simp at hsh
    obtain ⟨c, et, fr, hh⟩ := hcell
    have hV : ∀ i, i < len0 → ∃ x : BitVec k.bits, c[off + i]? = some (.int k (den k x)) := fun i hi => by
      have hmm : i < m := by rw [hm]; split <;> omega
      obtain ⟨hcell, htr⟩ := hx i hmm
      obtain ⟨z, hz, _, hw⟩ := DataW.trod_int he htr
      simp only [List.cons.injEq, and_true] at hz
      rw [hz] at hcell
      rw [add_plain] at hcell
      unfold World.cell? at hcell
      simp only [hh, Option.isSome_none, Bool.false_eq_true, if_false] at hcell
      refine ⟨BitVec.ofInt k.bits z, ?_⟩
      rw [hcell, den_of_has (by simpa [Lit.wf, IntKind.has] using hw)]
    exact ⟨.row len0 (fun i => if h : i < len0 then (hV i h).choose else 0), b, off, cap0, rfl, h1, by
      have : IntKind.i64.max = 2 ^ 63 - 1 := by decide
      rw [this] at h2; omega, c, et, fr, hh, fun i hi => by
      have := (hV i hi).choose_spec
      simp only [dif_pos hi]; exact this⟩
end
/-- A law's run over memory that it may read. -/
def runS (P : Program) (C : Oracle) (F : Cfg) (fn : Func) (args : List AV) (H : Heap) (N : Nat) : Option AV := bodyA P C (drawA P) F fn args H N (fun v _ _ => some v)
theorem calls_trueS {P : Program} {C : Oracle} (hC : Snd P C) {F : Cfg} {g : FuncId} {fn : Func} (hfn : P.funcs[g]? = some fn) {args : List AV} {H : Heap} {N : Nat} (h : runS P C F fn args H N = some (.bool true))
    (w : World) {ρ : Env} (hf : FreshI ρ N) (hrw : ∀ x l, ρ x = some l → l.rw = false) (hi : Inv ρ H w) {vs : Array Value} (hvs : VRs ρ args vs.toList) (hF : FOK P fn F := by first | exact fok_nil rfl | assumption) :
    Calls P g vs w (fun e w' => e = .returned (.bool true) ∧ Below w.heap.size w w') := by
  obtain ⟨v1, H', N', hk, hN, hcall⟩ := bodyA_sound hC hfn hF h
  cases hk
  refine Calls.mono (by simpa using hcall ρ w vs.toList hvs hi hf) ?_
  rintro e w' ⟨v', rfl, ρ', hst, hv⟩
  simp only [VR] at hv
  refine ⟨by rw [hv], hst.os, hst.tape, hst.output, hst.size, fun b hb => hst.block b hb ?_⟩
  rintro ⟨x, k, l, hx, hl, hr, _⟩
  rw [hrw x l hl] at hr
  simp at hr
/-- Names for rows: a place for each. -/
def envOf : List (Nat × Loc) → Env
  | [], _ => none
  | (x, l) :: r, y => bif Nat.beq x y then some l else envOf r y
theorem numRows_flat (k : IntKind) (f : Nat → BitVec k.bits) : ∀ (n i o : Nat), o < n → (arrFlat [.int k] n (numRows k f n i))[o]? = some (.int k (f (i + o)))
  | 0, i, o, h => absurd h (Nat.not_lt_zero _)
  | n + 1, i, 0, h => by simp [numRows, arrFlat, rowCells, coerce, AV.asInt]
  | n + 1, i, o + 1, h => by
    simp only [numRows, arrFlat, rowCells]
    show (arrFlat [.int k] n (numRows k f n (i + 1)))[o]? = _
    rw [numRows_flat k f n (i + 1) o (by omega), show i + 1 + o = i + (o + 1) by omega]
theorem arrFlat_len1 (k : IntKind) : ∀ (n : Nat) (d : List (List AV)), (arrFlat [.int k] n d).length = n := fun n d => by
  rw [arrFlat_length]; simp
/-- A row of numbers in memory: its block stands. -/
theorem slAt_blk {w : World} {k : IntKind} {n : Nat} {f : Nat → BitVec k.bits} {v : Value} (h : SlAt w k v (.row n f)) :
    ∃ l : Loc, l.rw = false ∧ (∀ ρ : Env, BlkRel ρ w l (Sl.blk k (.row n f))) ∧ ∀ (ρ : Env) (x : Nat), ρ x = some l → VR ρ ((Sl.row n f).av x) v := by
  obtain ⟨b, off, cap, rfl, h1, h2, c, e, fr, h3, h4⟩ := h
  refine ⟨⟨b, off, 0, false⟩, rfl, fun ρ => ⟨c, e, fr, h3, rfl, fun h => by simp [Sl.blk] at h, fun o v hv => ?_⟩, fun ρ x hx => ?_⟩
  · simp only [Sl.blk, flat, List.append_nil] at hv
    have ho : o < n := by
      have := (List.getElem?_eq_some_iff.1 hv).1
      rwa [arrFlat_len1] at this
    rw [numRows_flat k f n 0 o ho] at hv
    simp only [Option.some.injEq] at hv
    subst hv
    refine ⟨_, h4 o ho, ?_⟩
    simp [VR]
  · simp only [Sl.av, VR]
    exact ⟨_, cap, hx, h1, h2, fun h => by simp at h, by simp [Loc.addr, AP.pos]⟩
/-- Some rows, of kinds. -/
abbrev SlK := (k : IntKind) × Sl k.bits
def slHs : Nat → List SlK → Heap
  | _, [] => []
  | x, ⟨_, .nil⟩ :: r => slHs (x + 1) r
  | x, ⟨k, .row n f⟩ :: r => (x, Sl.blk k (.row n f)) :: slHs (x + 1) r
def slAvs : Nat → List SlK → List AV
  | _, [] => []
  | x, s :: r => s.2.av x :: slAvs (x + 1) r
def SlAts (w : World) : List SlK → List Value → Prop
  | [], vs => vs = []
  | s :: r, vs => ∃ v t, vs = v :: t ∧ SlAt w s.1 v s.2 ∧ SlAts w r t
theorem slAvs_congr {ρ ρ' : Env} : ∀ (L : List SlK) (x : Nat) (vs : List Value), (∀ y, x ≤ y → ρ y = ρ' y) → VRs ρ (slAvs x L) vs → VRs ρ' (slAvs x L) vs
  | [], x, vs, _, h => h
  | ⟨k, s⟩ :: r, x, vs, hy, h => by
    simp only [slAvs] at h ⊢
    obtain ⟨v, t, rfl, h1, h2⟩ := VRs_cons.1 h
    refine VRs_cons' ?_ (slAvs_congr r (x + 1) t (fun y h => hy y (by omega)) h2)
    cases s with
    | nil => exact h1
    | row n f => simp only [Sl.av, VR] at h1 ⊢; rw [← hy x (Nat.le_refl _)]; exact h1
theorem slices_env {w : World} : ∀ (L : List SlK) (x : Nat) (vs : List Value), SlAts w L vs → ∃ ρ : Env, (∀ y, y < x ∨ x + L.length ≤ y → ρ y = none) ∧ (∀ y l, ρ y = some l → l.rw = false) ∧
    (∀ y b, (slHs x L).find y = some b → x ≤ y ∧ ∃ l, ρ y = some l ∧ ∀ ρ' : Env, BlkRel ρ' w l b) ∧ VRs ρ (slAvs x L) vs
  | [], x, vs, h => by
    refine ⟨fun _ => none, fun _ _ => rfl, fun y l h => by simp at h, fun y b h => by simp [slHs, Heap.find] at h, ?_⟩
    simp only [SlAts] at h; subst h; simp [slAvs]
  | ⟨k, .nil⟩ :: r, x, vs, h => by
    obtain ⟨v, t, rfl, h1, h2⟩ := h
    obtain ⟨ρ, e1, e2, e3, e4⟩ := slices_env r (x + 1) t h2
    refine ⟨ρ, fun y hy => e1 y (by simp at hy; omega), e2, fun y b hb => ?_, VRs_cons' ?_ e4⟩
    · obtain ⟨g1, g2⟩ := e3 y b hb
      exact ⟨by omega, g2⟩
    · exact h1
  | ⟨k, .row n f⟩ :: r, x, vs, h => by
    obtain ⟨v, t, rfl, h1, h2⟩ := h
    obtain ⟨ρ, e1, e2, e3, e4⟩ := slices_env r (x + 1) t h2
    obtain ⟨l, g1, g2, g3⟩ := slAt_blk h1
    refine ⟨fun y => if y = x then some l else ρ y, fun y hy => ?_, fun y l' hl => ?_, fun y b hb => ?_, VRs_cons' (g3 _ x (by simp)) (slAvs_congr r (x + 1) t (fun y hy => by simp [show ¬ y = x by omega]) e4)⟩
    · have hne : ¬ y = x := by simp at hy; omega
      simp only [hne, if_false]
      exact e1 y (by simp at hy; omega)
    · by_cases hyx : y = x
      · simp only [hyx, if_true, Option.some.injEq] at hl; subst hl; exact g1
      · simp only [hyx, if_false] at hl; exact e2 y l' hl
    · simp only [slHs] at hb
      by_cases hyx : x = y
      · subst hyx
        rw [find_cons_eq] at hb
        simp only [Option.some.injEq] at hb; subst hb
        exact ⟨Nat.le_refl _, l, by simp, g2⟩
      · rw [find_cons_ne _ _ hyx] at hb
        obtain ⟨q1, l', q2, q3⟩ := e3 y b hb
        exact ⟨by omega, l', by simp only [show ¬ y = x from fun h => hyx h.symm, if_false]; exact q2, q3⟩
/-- Rows in memory, and what stands beside them. -/
theorem slices_inv {w : World} {L : List SlK} {vs : List Value} (h : SlAts w L vs) : ∃ ρ : Env, FreshI ρ L.length ∧ (∀ y l, ρ y = some l → l.rw = false) ∧ Inv ρ (slHs 0 L) w ∧ VRs ρ (slAvs 0 L) vs := by
  obtain ⟨ρ, e1, e2, e3, e4⟩ := slices_env L 0 vs h
  refine ⟨ρ, fun y hy => e1 y (.inr (by omega)), e2, ⟨fun y b hb => ?_, fun y z by' bz ly lz _ _ hy _ hr => ?_⟩, e4⟩
  · obtain ⟨_, l, q1, q2⟩ := e3 y b hb
    exact ⟨l, q1, q2 ρ⟩
  · rw [e2 y ly hy] at hr; simp at hr
end Go.Sx

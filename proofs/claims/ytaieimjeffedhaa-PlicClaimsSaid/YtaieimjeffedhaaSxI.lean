/- What the executor's operations answer, the machine's operations answer: slices that are made, and appended to. -/
import Derived.Test.YtaieimjeffedhaaSxH
set_option linter.unusedSimpArgs false
set_option linter.unusedVariables false
set_option linter.unnecessarySimpa false
namespace Go.Sx
open Go

section
variable {P : Program} {w : World} {ρ : Env} {R : Type} {r : R}

theorem flatten_rep_length {α : Type} (l : List α) : ∀ n, (List.replicate n l).flatten.length = n * l.length
  | 0 => by simp
  | n + 1 => by simp [List.replicate_succ, flatten_rep_length l n, Nat.add_mul, Nat.add_comm]
theorem flatten_rep_get {α : Type} (l : List α) : ∀ (n i : Nat), i < n * l.length → (List.replicate n l).flatten[i]? = l[i % l.length]?
  | 0, i, h => by omega
  | n + 1, i, h => by
    simp only [List.replicate_succ, List.flatten_cons]
    rcases Nat.lt_or_ge i l.length with hi | hi
    · rw [List.getElem?_append_left hi, Nat.mod_eq_of_lt hi]
    · rw [List.getElem?_append_right hi, flatten_rep_get l n _ (by rw [Nat.add_mul] at h; omega), Nat.mod_eq_sub_mod hi]
theorem range_zero (z : Array Value) (n : Nat) : ((Array.range (n * z.size)).map (fun i => z[i % z.size]!)).toList = (List.replicate n z.toList).flatten := by
  apply List.ext_getElem?
  intro i
  rcases Nat.lt_or_ge i (n * z.size) with h | h
  · have hz : 0 < z.size := by
      rcases Nat.eq_zero_or_pos z.size with h0 | h0
      · rw [h0] at h; omega
      · exact h0
    rw [flatten_rep_get _ _ _ (by simpa using h)]
    simp [h, Nat.mod_lt _ hz]
  · rw [List.getElem?_eq_none (by simpa using h), List.getElem?_eq_none (by rw [flatten_rep_length]; simpa using h)]

theorem run_typeInfo_bytes {t : TypeId} {i : TypeInfo} (h : P.info? t = some i) : (typeInfo t).run P w = .ok i w := run_typeInfo h
theorem szOf_info {t : TypeId} {n : Nat} {i : TypeInfo} (h : szOf P t = some n) (hi : P.info? t = some i) : i.size = n := by
  unfold szOf at h; rw [hi] at h; simpa using h

theorem arrFlat_replicate (sh : List CK) (z : List AV) (hz : fitsRow sh z = true) : ∀ n, arrFlat sh n (List.replicate n z) = (List.replicate n z).flatten
  | 0 => by simp [arrFlat]
  | n + 1 => by simp [List.replicate_succ, arrFlat, arrFlat_replicate sh z hz n, rowCells_fits hz]

theorem wrap_small {k : IntKind} {l : BitVec k.bits} (h : nonneg k l = true) (hl : l.toNat ≤ 2 ^ 47) : IntKind.i64.wrap (den k l) = (l.toNat : Int) := by
  rw [nonneg_den h]
  unfold IntKind.wrap
  have e : (2 : Int) ^ IntKind.i64.bits = 18446744073709551616 := by decide
  have e2 : (2 : Int) ^ (IntKind.i64.bits - 1) = 9223372036854775808 := by decide
  simp only [e, e2]
  have : (l.toNat : Int) % 18446744073709551616 = l.toNat := by omega
  rw [this]
  rw [if_neg]
  simp only [Bool.and_eq_true, decide_eq_true_eq]
  intro ⟨_, h2⟩
  omega

theorem makeSliceA_sound {t : TypeId} {len cap : AV} {N : Nat} {H : Heap} {K : AV → Eff → Nat → Option R} (h : makeSliceA P t len cap N K = some r) :
    ∃ v e N', K v e N' = some r ∧ N ≤ N' ∧ ∀ ρ w len' cap', VR ρ len len' → VR ρ cap cap' → Inv ρ H w → Fresh ρ N N' →
      ∃ z w', (Instr.makeSlice t len' cap').run P w = .ok z w' ∧ Post ρ H N w e N' v z w' := by
  unfold makeSliceA at h
  split at h
  · rename_i e k l k' c hu
    split at h
    · rename_i m z i s0 s hm hz hi hsh
      cases hc : (Nat.beq (s.length + 1) (m + 1) && fitsRow (s0 :: s) z && Nat.ble 1 i.bytes && allCells z) with
      | false => rw [hc] at h; simp at h
      | true =>
        rw [hc] at h
        simp only [cond_true] at h
        simp only [Bool.and_eq_true, beq_true, ble_true] at hc
        obtain ⟨⟨⟨hc1, hfit⟩, hb1⟩, hcells⟩ := hc
        cases hd : (nonneg k l && nonneg k' c && decide (l.toNat = c.toNat) && decide (i.bytes * c.toNat ≤ 2 ^ 47)) with
        | false => rw [hd] at h; simp at h
        | true =>
          rw [hd] at h
          simp only [cond_true] at h
          simp only [Bool.and_eq_true, decide_eq_true_eq] at hd
          obtain ⟨⟨⟨hl, hcn⟩, hlc⟩, hbytes⟩ := hd
          refine ⟨_, _, _, h, by omega, fun ρ w len' cap' hlen hcap hinv hf => ?_⟩
          simp only [VR] at hlen hcap; subst hlen; subst hcap
          have hc47 : c.toNat ≤ 2 ^ 47 := Nat.le_trans (Nat.le_mul_of_pos_left _ hb1) hbytes
          obtain ⟨zv, hzv, hzr⟩ := zeroA_sound (w := w) (ρ := ρ) hz hcells
          have hzl : z.length = m + 1 := by have := fitsRow_length hfit; simp at this; omega
          have hzs : zv.cells.size = m + 1 := by have := VRs_length hzr; simp at this; omega
          refine ⟨.slice (some ⟨w.heap.size, 0, none⟩) l.toNat c.toNat, w.alloc (.cells ((Array.range (c.toNat * zv.cells.size)).map (fun i => zv.cells[i % zv.cells.size]!)) e), ?_, _, step_new (ys := ((Array.range (c.toNat * zv.cells.size)).map (fun i => zv.cells[i % zv.cells.size]!)).toList) hinv (hf N (Nat.le_refl _) (by omega)) ?_ (fun j y hj => by rw [← Array.getElem?_toList]; exact hj), ?_⟩
          · simp only [Instr.makeSlice, Sem.run_bind, run_underlying hu, Result.andThen_ok, asInt, asIntOf, pure_bind, Sem.run_pure, run_typeInfo hi, wrap_small hcn hc47, wrap_small hl (by omega)]
            rw [if_neg (by
              simp only [Bool.or_eq_true, decide_eq_true_eq, not_or]
              refine ⟨⟨⟨by omega, ?_⟩, by omega⟩, by omega⟩
              have : ((i.bytes * c.toNat : Nat) : Int) ≤ 2 ^ 47 := by exact_mod_cast hbytes
              push_cast at this
              omega)]
            simp only [run_askRoom, Result.andThen_ok, run_sizeOf hm, Int.toNat_natCast, Sem.run_bind]
            by_cases h0 : c.toNat * (m + 1) = 0
            · rw [if_pos h0]
              simp only [Sem.run_pure, Result.andThen_ok, newRow, Sem.run_bind, run_newObj, hzs, h0]
              rw [show (Array.range 0) = (#[] : Array Nat) from rfl]
              simp
            · rw [if_neg h0]
              simp only [Sem.run_bind, hzv, Result.andThen_ok, Sem.run_pure, newRow, run_newObj, hzs, World.alloc_eq]
          · simp only [flat, List.append_nil, arrFlat_replicate _ z hfit, range_zero]
            exact VRs_flatten hzr _
          · simp only [VR]
            refine ⟨_, c.toNat, Env.add_self, by omega, by omega, fun _ => ?_, by simp [Loc.addr, AP.pos]⟩
            simp [AP.pos, hzs]
    · simp at h
  · simp at h

theorem fillA_length {place : Nat → Option (Nat × Nat)} : ∀ {parts : List (Nat × AV)} {cs out : List AV}, fillA place cs parts = some out → out.length = cs.length
  | [], cs, out, h => by simp [fillA] at h; subst h; rfl
  | (i, v) :: parts, cs, out, h => by
    simp only [fillA] at h
    split at h
    · simp at h
    · rename_i off size hpl
      cases hc : (Nat.beq (cellsOf v).length size && Nat.ble (off + (cellsOf v).length) cs.length && allCells (cellsOf v)) with
      | false => rw [hc] at h; simp at h
      | true =>
        rw [hc] at h
        simp only [cond_true] at h
        simp only [Bool.and_eq_true, beq_true, ble_true] at hc
        rw [fillA_length h]
        simp [splice]; omega
theorem rowsA_flat {e : TypeId} {n : Nat} {cs : List AV} {s : List Seg} {sz : Nat} (h : rowsA P e n cs = some (s, sz)) : flat s = cs := by
  unfold rowsA at h
  split at h
  · rename_i c s' m hsh hm
    cases hc : Nat.beq m (s'.length + 1) with
    | false => rw [hc] at h; simp at h
    | true =>
      rw [hc] at h
      simp only [cond_true] at h
      split at h
      · rename_i t ht
        simp at h; obtain ⟨rfl, rfl⟩ := h
        exact mkSegs_flat ht
      · simp at h
  · split at h
    · rename_i t ht
      simp at h; obtain ⟨rfl, rfl⟩ := h
      exact mkSegs_flat ht
    · simp at h
  · simp at h

theorem buildSliceA_sound {t : TypeId} {n : Nat} {parts : List (Nat × AV)} {N : Nat} {H : Heap} {K : AV → Eff → Nat → Option R} (h : buildSliceA P t n parts N K = some r) :
    ∃ v e N', K v e N' = some r ∧ N ≤ N' ∧ ∀ ρ w (ps : Array (Nat × Value)), ps.toList.map (·.1) = parts.map (·.1) → (∀ (i : Nat) (v : Nat × AV) (x : Nat × Value), parts[i]? = some v → ps.toList[i]? = some x → VR ρ v.2 x.2) → Inv ρ H w → Fresh ρ N N' →
      ∃ z w', (Instr.buildSlice t n ps).run P w = .ok z w' ∧ Post ρ H N w e N' v z w' := by
  unfold buildSliceA at h
  split at h
  · rename_i e hu
    split at h
    · rename_i m z hm hz
      cases hc : (Nat.ble (n * (m + 1)) (2 ^ 24) && Nat.beq z.length (m + 1) && allCells z && Nat.ble 1 n) with
      | false => rw [hc] at h; simp at h
      | true =>
        rw [hc] at h
        simp only [cond_true] at h
        simp only [Bool.and_eq_true, beq_true, ble_true] at hc
        obtain ⟨⟨⟨hc1, hzl⟩, hcells⟩, hn⟩ := hc
        split at h
        · rename_i cs hcs
          split at h
          · rename_i s sz hrows
            refine ⟨_, _, _, h, by omega, fun ρ w ps hp hr hinv hf => ?_⟩
            obtain ⟨zv, hzv, hzr⟩ := zeroA_sound (w := w) (ρ := ρ) hz hcells
            have hzs : zv.cells.size = m + 1 := by have := VRs_length hzr; simp at this; omega
            have hv0 : VRs ρ (rep n z) ((Array.range (n * (m + 1))).map (fun i => zv.cells[i % zv.cells.size]!)).toList := by
              rw [← hzs, range_zero]; exact VRs_flatten hzr n
            obtain ⟨b, hb, hbr⟩ := fillA_sound hcs hv0 (ps := ps.toList) hp hr
            have hlen : cs.length = n * (m + 1) := by rw [fillA_length hcs]; simp [rep, flatten_rep_length, hzl]
            have hbs : b.size = n * (m + 1) := by have := VRs_length hbr; simp at this; omega
            have hn63 : n < 2 ^ 63 := by
              have : n ≤ n * (m + 1) := Nat.le_mul_of_pos_right _ (by omega)
              omega
            have hpos : 1 ≤ n * (m + 1) := Nat.mul_pos hn (by omega)
            refine ⟨.slice (some ⟨w.heap.size, 0, none⟩) n n, w.alloc (.cells b e), ?_, _, step_new (ys := b.toList) hinv (hf N (Nat.le_refl _) (by omega)) (by rw [rowsA_flat hrows]; exact hbr) (fun j y hj => by rw [← Array.getElem?_toList]; exact hj), ?_⟩
            · simp only [Instr.buildSlice, Sem.run_bind, run_underlying hu, Result.andThen_ok, run_sizeOf hm, Nat.succ_eq_add_one]
              rw [if_neg (by omega)]
              rw [if_neg (by omega)]
              simp only [Sem.run_bind, hzv, Result.andThen_ok, Sem.run_pure]
              have hbb : Instr.fill (fun i => some (i * (m + 1), m + 1)) ((Array.range (n * (m + 1))).map (fun i => zv.cells[i % zv.cells.size]!)) ps.toList = some b := hb
              rw [hbb]
              simp only [newRow, Sem.run_bind, run_newObj, Result.andThen_ok, Sem.run_pure, World.alloc_eq]
            · simp only [VR]
              refine ⟨_, n, Env.add_self, by omega, hn63, fun _ => ?_, by simp [Loc.addr, AP.pos]⟩
              simp [AP.pos, hbs]
          · simp at h
        · simp at h
    · simp at h
  · simp at h

/-! append -/
theorem arrFlat_append (sh : List CK) : ∀ (a b : List (List AV)) (m : Nat), arrFlat sh (a.length + m) (a ++ b) = arrFlat sh a.length a ++ arrFlat sh m b
  | [], b, m => by simp [arrFlat]
  | r :: a, b, m => by
    simp only [List.length_cons, List.cons_append]
    rw [show a.length + 1 + m = (a.length + m) + 1 by omega]
    simp only [arrFlat, arrFlat_append sh a b m, List.append_assoc]
theorem findArr_rows {s : List Seg} {off : Nat} {sh : List CK} {m : Nat} {d : List (List AV)} (hf : findArr s off = some (sh, m, d)) (hsh : 0 < sh.length) {i n : Nat} (hin : i + n ≤ m) (hd : d.length = m) :
    ((flat s).drop (off + i * sh.length)).take (n * sh.length) = arrFlat sh n ((d.drop i).take n) ∧ ((d.drop i).take n).length = n := by
  refine ⟨?_, by simp; omega⟩
  apply List.ext_getElem?
  intro k
  rcases Nat.lt_or_ge k (n * sh.length) with hk | hk
  · rw [List.getElem?_take_of_lt hk, List.getElem?_drop]
    have hq : k / sh.length < n := (Nat.div_lt_iff_lt_mul hsh).2 hk
    have ht : k % sh.length < sh.length := Nat.mod_lt _ hsh
    have hkk : k = (k / sh.length) * sh.length + k % sh.length := by rw [Nat.mul_comm]; exact (Nat.div_add_mod k sh.length).symm
    have h1 := findArr_flat hf (i + k / sh.length) (k % sh.length) (by omega) ht
    have h2 := arrFlat_get sh n ((d.drop i).take n) (k / sh.length) (k % sh.length) hq ht
    rw [← hkk] at h2
    rw [h2]
    have e : off + i * sh.length + k = off + (i + k / sh.length) * sh.length + k % sh.length := by rw [Nat.add_mul]; omega
    rw [e, h1]
    congr 2
    simp only [List.getD_eq_getElem?_getD]
    rw [List.getElem?_take_of_lt hq, List.getElem?_drop]
  · rw [List.getElem?_eq_none (by simp; omega), List.getElem?_eq_none (by rw [arrFlat_length]; exact hk)]

theorem coerce_isCell (c : CK) (v : AV) : isCell (coerce c v) = true := by cases c <;> rfl
theorem allCells_append : ∀ {l m : List AV}, allCells l = true → allCells m = true → allCells (l ++ m) = true
  | [], _, _, h => h
  | v :: l, m, h, hm => by
    simp only [allCells, Bool.and_eq_true] at h
    simp [allCells, h.1, allCells_append h.2 hm]
theorem rowCells_allCells : ∀ (sh : List CK) (r : List AV), allCells (rowCells sh r) = true
  | [], _ => rfl
  | c :: s, [] => by simp [rowCells, allCells, coerce_isCell, rowCells_allCells s []]
  | c :: s, v :: r => by simp [rowCells, allCells, coerce_isCell, rowCells_allCells s r]
theorem arrFlat_allCells (sh : List CK) : ∀ (n : Nat) (d : List (List AV)), allCells (arrFlat sh n d) = true
  | 0, _ => rfl
  | n + 1, [] => allCells_append (rowCells_allCells sh []) (arrFlat_allCells sh n [])
  | n + 1, r :: d => allCells_append (rowCells_allCells sh r) (arrFlat_allCells sh n d)
theorem cell_same {w w' : World} (h : w'.heap = w.heap) (a : Addr) : w'.cell? a = w.cell? a := by simp [World.cell?, h]

/-- Rows of a slice, as the machine loads them. -/
theorem rowsOf_sound {H : Heap} {sh : List CK} {v : AV} {a : List (List AV)} (h : rowsOf H sh v = some a) (hsh : 0 < sh.length) {v' : Value} (hv : VR ρ v v') (hi : Inv ρ H w) :
    (Builtin.lenOf v').run P w = .ok a.length w ∧ ∃ ys, (∀ w' : World, w'.heap = w.heap → (Builtin.firstCells sh.length a.length v').run P w' = .ok ys w') ∧ VRs ρ (arrFlat sh a.length a) ys.toList ∧
      ∀ p es n, v = .slice p es n → a.length = n ∧ ∀ l, ρ p.x = some l → ∀ (j : Nat) (y : Value), ys.toList[j]? = some y → w.cell? (l.addr (p.pos + j)) = some y := by
  unfold rowsOf at h
  split at h
  · simp at h; subst h
    simp only [VR] at hv; subst hv
    exact ⟨rfl, #[], fun _ _ => rfl, by simp [arrFlat], by simp⟩
  · rename_i p es n
    split at h
    · rename_i b hb
      split at h
      · rename_i sh' m d hf
        cases hc : (decide (sh' = sh) && Nat.beq p.sz sh.length && Nat.beq p.j 0 && decide (p.i + n ≤ m) && decide (d.length = m)) with
        | false => rw [hc] at h; simp at h
        | true =>
          rw [hc] at h
          simp only [cond_true, Option.some.injEq] at h
          simp only [Bool.and_eq_true, beq_true, decide_eq_true_eq] at hc
          obtain ⟨⟨⟨⟨rfl, hsz⟩, hj⟩, him⟩, hd⟩ := hc
          obtain ⟨h1, h2⟩ := findArr_rows hf hsh him hd
          rw [h] at h1 h2
          have hpos : p.pos = p.off + p.i * sh'.length := by simp [AP.pos, hsz, hj]
          rw [← hpos] at h1
          simp only [VR] at hv
          obtain ⟨l, cap, hl, hcap, h63, hext, rfl⟩ := hv
          obtain ⟨l', ys, hl', hys, hcell⟩ := hi.cells hb h1 (by rw [arrFlat_length])
          rw [hl] at hl'; simp at hl'; subst hl'
          rw [h2]
          have hlen := VRs_length hys
          rw [arrFlat_length] at hlen
          refine ⟨rfl, ys.toArray, fun w' hw => ?_, by simpa using hys, ?_⟩
          · have := run_loadCells_at (P := P) (w := w') l p.pos ys (fun j y hy => by rw [cell_same hw]; exact hcell j y hy)
            rw [← hlen] at this
            exact this
          · intro p' es' n' he
            simp at he
            obtain ⟨rfl, rfl, rfl⟩ := he
            refine ⟨rfl, fun l' hl' j y hy => ?_⟩
            rw [hl] at hl'; simp at hl'; subst hl'
            exact hcell j y (by simpa using hy)
      · simp at h
    · simp at h
  · simp at h

theorem growBy_le (need : Nat) : ∀ (k c : Nat), Builtin.growBy need k c ≤ max c (need + (need + 768) / 4)
  | 0, c => by simp [Builtin.growBy]; omega
  | k + 1, c => by
    unfold Builtin.growBy
    split
    · omega
    · have := growBy_le need k (c + (c + 768) / 4)
      omega
theorem nextcap_le {need cap bytes : Nat} (hc : cap < need) (hb : bytes ≤ 2 ^ 20) (hn : need * bytes ≤ 2 ^ 47 + 2 ^ 20) : Builtin.nextslicecap need cap * bytes ≤ 2 ^ 48 := by
  unfold Builtin.nextslicecap
  split
  · omega
  · split
    · rename_i h1 h2
      have : 2 * cap * bytes ≤ 512 * 2 ^ 20 := Nat.mul_le_mul (by omega) hb
      omega
    · have h := growBy_le need 4 cap
      have h' : Builtin.growBy need 4 cap ≤ need + (need + 768) / 4 := by omega
      have h2 := Nat.mul_le_mul_right bytes h'
      have h3 : (need + (need + 768) / 4) * bytes ≤ need * bytes + (need * bytes + 768 * bytes) / 4 := by
        rw [Nat.add_mul]
        have : (need + 768) / 4 * bytes ≤ (need * bytes + 768 * bytes) / 4 := by
          rw [← Nat.add_mul, Nat.le_div_iff_mul_le (by decide)]
          calc (need + 768) / 4 * bytes * 4 = ((need + 768) / 4 * 4) * bytes := by rw [Nat.mul_right_comm]
            _ ≤ (need + 768) * bytes := Nat.mul_le_mul_right _ (Nat.div_mul_le_self _ _)
        omega
      have : 768 * bytes ≤ 768 * 2 ^ 20 := Nat.mul_le_mul_left _ hb
      omega

/-- In place: the block goes on under another name. -/
theorem step_move {H : Heap} {N x : Nat} {b : Blk} {l : Loc} {c c' : Array Value} {e : TypeId} {s : List Seg} {ys : List Value} {o : Nat} (hi : Inv ρ H w) (hN : ρ N = none) (hb : H.find x = some b) (hl : ρ x = some l) (hrw : l.rw = true)
    (hc : w.heap[l.b]? = some (.cells c e (0, 0))) (hcs : c'.size = c.size) (hv : VRs ρ (flat s) ys) (hys : ∀ (j : Nat) (y : Value), ys[j]? = some y → c'[o + j]? = some y) :
    Step ρ H N w (ρ.add N ⟨l.b, o, c.size, true⟩) ((H.del x).put N ⟨true, s⟩) (N + 1) { w with heap := w.heap.setIfInBounds l.b (.cells c' e (0, 0)) } where
  ext y hy := by simp [Env.add]; intro h; omega
  os := rfl
  tape := rfl
  output := rfl
  size := by simp
  block k hk hn := by
    rw [heap_setIf w (lt_size hc), if_neg]
    rintro rfl
    exact hn ⟨x, b, l, hb, hl, hrw, rfl⟩
  inv := by
    have hle := Env.add_le (l := ⟨l.b, o, c.size, true⟩) hN
    have hNf := hi.none hN
    constructor
    · intro y by' hy
      rw [find_put] at hy
      split at hy
      · rename_i hye; subst hye
        simp at hy; subst hy
        refine ⟨_, Env.add_self, c', e, (0, 0), by rw [heap_setIf w (lt_size hc), if_pos rfl], rfl, fun _ => ⟨rfl, hcs.symm⟩, fun k v hk => ?_⟩
        obtain ⟨z, hz, hr⟩ := VRs_get hv k v hk
        exact ⟨z, hys k z hz, VR_mono hle _ _ hr⟩
      · rw [find_del] at hy
        split at hy
        · simp at hy
        · rename_i hyx
          obtain ⟨ly, hly, hby⟩ := hi.blk y by' hy
          refine ⟨ly, hle _ _ hly, hby.mono hle ?_⟩
          rw [heap_setIf w (lt_size hc), if_neg]
          intro hh
          exact hyx (hi.inj x y b by' l ly hb hy hl hly hrw hh.symm).symm
    · intro y z by' bz ly lz hy hz hly hlz hr hbb
      rw [find_put] at hy hz
      have old : ∀ q bq lq, H.find q = some bq → q ≠ x → (ρ.add N ⟨l.b, o, c.size, true⟩) q = some lq → lq.b ≠ l.b := by
        intro q bq lq hq hqx hlq hh
        obtain ⟨lq', hlq', _⟩ := hi.blk q bq hq
        have := hle _ _ hlq'
        rw [hlq] at this; simp at this; subst this
        exact hqx (hi.inj x q b bq l lq hb hq hl hlq' hrw hh.symm).symm
      by_cases h1 : y = N <;> by_cases h2 : z = N
      · rw [h1, h2]
      · subst h1
        rw [if_neg h2, find_del] at hz
        split at hz
        · simp at hz
        · rename_i hzx
          rw [Env.add_self] at hly; simp at hly; subst hly
          exact absurd hbb.symm (old z bz lz hz hzx hlz)
      · subst h2
        rw [if_neg h1, find_del] at hy
        split at hy
        · simp at hy
        · rename_i hyx
          rw [Env.add_self] at hlz; simp at hlz; subst hlz
          exact absurd hbb (old y by' ly hy hyx hly)
      · rw [if_neg h1, find_del] at hy
        rw [if_neg h2, find_del] at hz
        split at hy
        · simp at hy
        · split at hz
          · simp at hz
          · simp [Env.add, h1] at hly
            simp [Env.add, h2] at hlz
            exact hi.inj y z by' bz ly lz hy hz hly hlz hr hbb
  prov y q ly hy hly := by
    rw [find_put] at hy
    split at hy
    · rename_i hye; subst hye
      rw [Env.add_self] at hly; simp at hly; subst hly
      exact .inl ⟨x, b, l, hb, hl, rfl, fun _ => hrw⟩
    · rename_i hye
      rw [find_del] at hy
      split at hy
      · simp at hy
      · simp [Env.add, hye] at hly
        exact .inl ⟨y, q, ly, hy, hly, rfl, id⟩
end
end Go.Sx

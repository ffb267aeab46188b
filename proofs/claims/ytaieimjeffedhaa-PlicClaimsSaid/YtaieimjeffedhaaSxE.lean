/- What the executor's operations answer, the machine's operations answer (all but calls). -/
import Derived.Test.YtaieimjeffedhaaSxD
import Derived.Laws.StructEq
set_option linter.unusedSimpArgs false
set_option linter.unusedVariables false
set_option linter.unnecessarySimpa false
namespace Go.Sx
open Go

section
variable {P : Program} {w : World}

theorem VR_ofS {ρ : Env} (x : Value) : VR ρ (ofS x) x := by
  unfold ofS
  split
  · simp [VR]
  · rename_i k n
    cases h : decide (den k (BitVec.ofInt k.bits n) = n) with
    | false => simp [VR]
    | true => simp only [cond_true, VR]; rw [of_decide_eq_true h]
  all_goals simp [VR]
theorem VR_ofV {ρ : Env} (x : Value) : VR ρ (ofV x) x := by
  unfold ofV
  split
  · rename_i cs
    simp only [VR]
    refine ⟨cs, rfl, ?_⟩
    have := VRs_map (ρ := ρ) ofS id cs.toList (fun x _ => VR_ofS x)
    simpa using this
  · exact VR_ofS _
theorem VRs_cellsOf {ρ : Env} {v : AV} {x : Value} (h : VR ρ v x) (hc : allCells (cellsOf v) = true) : VRs ρ (cellsOf v) x.cells.toList := by
  cases v <;> simp only [cellsOf, allCells, isCell, Bool.and_true] at hc ⊢ <;> simp only [VR] at h
  case agg l => obtain ⟨a, rfl, ha⟩ := h; simpa [Value.cells] using ha
  case any => simp at hc
  case tup => simp at hc
  case bool => subst h; simp [Value.cells]; exact VRs_one (by simp [VR])
  case int => subst h; simp [Value.cells]; exact VRs_one (by simp [VR])
  case ptr => obtain ⟨l, hl, rfl⟩ := h; simp [Value.cells]; exact VRs_one (by simp only [VR]; exact ⟨l, hl, rfl⟩)
  case nilptr => subst h; simp [Value.cells]; exact VRs_one (by simp [VR])
  case slice => obtain ⟨l, cap, h1, h2, h3, h4, rfl⟩ := h; simp [Value.cells]; exact VRs_one (by simp only [VR]; exact ⟨l, cap, h1, h2, h3, h4, rfl⟩)
  case nilslice => subst h; simp [Value.cells]; exact VRs_one (by simp [VR])
  case func => obtain ⟨a, c, rfl, h1, h2⟩ := h; simp [Value.cells]; exact VRs_one (by simp only [VR]; exact ⟨a, c, rfl, h1, h2⟩)
  case nilfunc => subst h; simp [Value.cells]; exact VRs_one (by simp [VR])
  case iface => obtain ⟨y, rfl, hy⟩ := h; simp [Value.cells]; exact VRs_one (by simp only [VR]; exact ⟨y, rfl, hy⟩)
  case nilface => subst h; simp [Value.cells]; exact VRs_one (by simp [VR])
  case lit v => 
    subst h
    have : x.cells.toList = [x] := by cases x <;> simp [Value.oneCell'] at hc <;> rfl
    rw [this]; exact VRs_one (by simp [VR])

/-! whole numbers -/
theorem intBin_sound {R : Type} {op : BinOp} {k : IntKind} {x y : BitVec k.bits} {K : AV → Option R} {r : R} (t : TypeId) (h : intBin op k x y K = some r) :
    ∃ v, K v = some r ∧ ∀ (ρ : Env) (w : World), ∃ z, (binOp op t (.int k (den k x)) (.int k (den k y))).run P w = .ok z w ∧ VR ρ v z := by
  unfold intBin at h
  split at h
  · exact ⟨_, h, fun ρ w => ⟨.int k (den k (x + y)), by simp [binOp, Op.intArith, den_add], by simp [VR]⟩⟩
  · exact ⟨_, h, fun ρ w => ⟨.int k (den k (x - y)), by simp [binOp, Op.intArith, den_sub], by simp [VR]⟩⟩
  · exact ⟨_, h, fun ρ w => ⟨.int k (den k (x * y)), by simp [binOp, Op.intArith, den_mul], by simp [VR]⟩⟩
  · cases hy : (y == 0) with
    | true => rw [hy] at h; simp at h
    | false =>
      rw [hy] at h; simp only [cond_false] at h
      have : ¬ den k y = 0 := by rw [den_zero]; intro e; simp [e] at hy
      exact ⟨_, h, fun ρ w => ⟨.int k (den k (quoA k x y)), by simp [binOp, Op.intDiv, this, den_quo], by simp [VR]⟩⟩
  · cases hy : (y == 0) with
    | true => rw [hy] at h; simp at h
    | false =>
      rw [hy] at h; simp only [cond_false] at h
      have : ¬ den k y = 0 := by rw [den_zero]; intro e; simp [e] at hy
      exact ⟨_, h, fun ρ w => ⟨.int k (den k (remA k x y)), by simp [binOp, Op.intDiv, this, den_rem], by simp [VR]⟩⟩
  · exact ⟨_, h, fun ρ w => ⟨.int k (den k (x &&& y)), by simp only [binOp, Op.intBits, ofInt_den]; simp only [ne_eq, not_true_eq_false, if_false, Sem.run_pure, wrap_toNat], by simp [VR]⟩⟩
  · exact ⟨_, h, fun ρ w => ⟨.int k (den k (x ||| y)), by simp only [binOp, Op.intBits, ofInt_den]; simp only [ne_eq, not_true_eq_false, if_false, Sem.run_pure, wrap_toNat], by simp [VR]⟩⟩
  · exact ⟨_, h, fun ρ w => ⟨.int k (den k (x ^^^ y)), by simp only [binOp, Op.intBits, ofInt_den]; simp only [ne_eq, not_true_eq_false, if_false, Sem.run_pure, wrap_toNat], by simp [VR]⟩⟩
  · exact ⟨_, h, fun ρ w => ⟨.int k (den k (x &&& ~~~y)), by simp only [binOp, Op.intBits, ofInt_den]; simp only [ne_eq, not_true_eq_false, if_false, Sem.run_pure, wrap_toNat], by simp [VR]⟩⟩
  · exact ⟨_, h, fun ρ w => ⟨.bool (x == y), by simp only [binOp, Op.intCmp, den_eq]; simp, by simp [VR]⟩⟩
  · exact ⟨_, h, fun ρ w => ⟨.bool (!(x == y)), by simp only [binOp, Op.intCmp, bne, den_eq]; simp, by simp [VR]⟩⟩
  · exact ⟨_, h, fun ρ w => ⟨.bool (ltA k x y), by simp only [binOp, Op.intCmp, den_lt]; simp, by simp [VR]⟩⟩
  · exact ⟨_, h, fun ρ w => ⟨.bool (leA k x y), by simp only [binOp, Op.intCmp, den_le]; simp, by simp [VR]⟩⟩
  · exact ⟨_, h, fun ρ w => ⟨.bool (ltA k y x), by simp only [binOp, Op.intCmp, gt_iff_lt, den_lt]; simp, by simp [VR]⟩⟩
  · exact ⟨_, h, fun ρ w => ⟨.bool (leA k y x), by simp only [binOp, Op.intCmp, ge_iff_le, den_le]; simp, by simp [VR]⟩⟩
  · simp at h
  · simp at h

/-! what is the same -/
theorem run_part_agg {t : TypeId} {n : Nat} (ha : isAggT P t = some true) (hn : szOf P t = some n) (cs : Array Value) (o : Nat) : (part t cs o).run P w = .ok (.agg (cs.extract o (o + n))) w := by
  simp [part, run_isAgg ha, run_sizeOf hn]
theorem run_part_cell {t : TypeId} {cs : Array Value} {o : Nat} {v : Value} (ha : isAggT P t = some false) (h : cs[o]? = some v) : (part t cs o).run P w = .ok v w := by
  simp [part, run_isAgg ha, h]
theorem VR_slice {ρ : Env} {l : List AV} {a : Array Value} (h : VRs ρ l a.toList) (o n : Nat) : VR ρ (.agg ((l.drop o).take n)) (.agg (a.extract o (o + n))) := by
  simp only [VR]
  refine ⟨_, rfl, ?_⟩
  have := VRs_take n (VRs_drop o h)
  simpa [Array.toList_extract, List.extract_eq_take_drop, Nat.add_sub_cancel_left] using this

theorem eqA_sound {ρ : Env} : ∀ (d d' : Nat) (t : TypeId) (x y : AV) (x' y' : Value) (b : Bool), d ≤ d' → eqA P d t x y = some b → VR ρ x x' → VR ρ y y' → (Op.equalIn d' t x' y').run P w = .ok b w
  | 0, _, _, _, _, _, _, _, _, h, _, _ => by simp [eqA] at h
  | d + 1, 0, _, _, _, _, _, _, hd, _, _, _ => by omega
  | d + 1, d' + 1, t, x, y, x', y', b, hd, h, hx, hy => by
    have hd : d ≤ d' := by omega
    simp only [eqA] at h
    split at h
    · rename_i hu; simp only [VR] at hx hy; subst hx; subst hy; simp at h; subst h; simp [Op.equalIn, run_underlying hu]
    · rename_i hu
      simp only [VR] at hx hy; subst hx; subst hy
      split at h
      · rename_i hk; subst hk; simp at h; subst h; simp only [Op.equalIn, Sem.run_bind, run_underlying hu, Result.andThen_ok, if_true, Sem.run_pure, den_eq]
      · simp at h
    · rename_i hu; simp only [VR] at hx hy; subst hx; subst hy; simp at h; subst h; simp [Op.equalIn, run_underlying hu]
    · rename_i hu; simp only [VR] at hx hy; obtain ⟨l, _, rfl⟩ := hy; subst hx; simp at h; subst h; simp [Op.equalIn, run_underlying hu]
    · rename_i hu; simp only [VR] at hx hy; obtain ⟨l, _, rfl⟩ := hx; subst hy; simp at h; subst h; simp [Op.equalIn, run_underlying hu]
    · rename_i hu; simp only [VR] at hx hy; obtain ⟨l, rfl, _⟩ := hy; subst hx; simp at h; subst h; simp [Op.equalIn, run_underlying hu]
    · rename_i hu; simp only [VR] at hx hy; obtain ⟨l, rfl, _⟩ := hx; subst hy; simp at h; subst h; simp [Op.equalIn, run_underlying hu]
    · rename_i hu; simp only [VR] at hx hy; subst hx; subst hy; simp at h; subst h; simp [Op.equalIn, run_underlying hu]
    · rename_i hu; simp only [VR] at hx hy; obtain ⟨l, cap, _, _, _, _, rfl⟩ := hy; subst hx; simp at h; subst h; simp [Op.equalIn, run_underlying hu]
    · rename_i hu; simp only [VR] at hx hy; obtain ⟨l, cap, _, _, _, _, rfl⟩ := hx; subst hy; simp at h; subst h; simp [Op.equalIn, run_underlying hu]
    · rename_i hu; simp only [VR] at hx hy; subst hx; subst hy; simp at h; subst h; simp [Op.equalIn, run_underlying hu]
    · rename_i hu; simp only [VR] at hx hy; obtain ⟨a, c, rfl, _⟩ := hy; subst hx; simp at h; subst h; simp [Op.equalIn, run_underlying hu]
    · rename_i hu; simp only [VR] at hx hy; obtain ⟨a, c, rfl, _⟩ := hx; subst hy; simp at h; subst h; simp [Op.equalIn, run_underlying hu]
    · rename_i fs xs ys hu
      simp only [VR] at hx hy
      obtain ⟨xa, rfl, hxa⟩ := hx
      obtain ⟨ya, rfl, hya⟩ := hy
      cases hp : P.stoodInHeld t with
      | true => simp [hp] at h
      | false =>
        simp only [hp, cond_false] at h
        have hf : P.underlying t = some (.struct (P.fieldsOf t)) := by simp [Program.fieldsOf, hu]
        rw [run_equalIn_struct w d' t xa ya hf hp]
        have hfs : P.fieldsOf t = fs := by simp [Program.fieldsOf, hu]
        rw [hfs]
        generalize fs.toList = l at h
        clear hf hfs hu
        induction l generalizing b with
        | nil => simp at h; subst h; simp [Op.eqFields]
        | cons f l ih =>
          simp only [List.foldr_cons] at h
          split at h
          · simp at h
          · rename_i r hr
            split at h
            · rename_i hn
              simp at h; subst h
              simp only [Op.eqFields, hn, ne_eq, not_true_eq_false, if_false]
              exact ih r hr
            · rename_i hn
              simp only [Op.eqFields, hn, ne_eq, not_false_eq_true, if_true]
              split at h
              · rename_i n ha hs
                split at h
                · rename_i b1 hb
                  simp at h; subst h
                  have e := eqA_sound d d' f.type _ _ _ _ b1 hd hb (VR_slice hxa f.offset n) (VR_slice hya f.offset n)
                  simp only [Sem.run_bind, run_part_agg ha hs, Result.andThen_ok, e]
                  cases b1 with
                  | false => simp
                  | true => simpa using ih r hr
                · simp at h
              · rename_i ha
                split at h
                · rename_i u v hu hv
                  split at h
                  · rename_i b1 hb
                    simp at h; subst h
                    obtain ⟨u', hu', hru⟩ := VRs_get hxa _ _ hu
                    obtain ⟨v', hv', hrv⟩ := VRs_get hya _ _ hv
                    simp only [Array.getElem?_toList] at hu' hv'
                    have e := eqA_sound d d' f.type u v u' v' b1 hd hb hru hrv
                    simp only [Sem.run_bind, run_part_cell ha hu', run_part_cell ha hv', Result.andThen_ok, e]
                    cases b1 with
                    | false => simp
                    | true => simpa using ih r hr
                  · simp at h
                · simp at h
              · simp at h
    · rename_i len e xs ys hu
      simp only [VR] at hx hy
      obtain ⟨xa, rfl, hxa⟩ := hx
      obtain ⟨ya, rfl, hya⟩ := hy
      split at h
      · simp at h
      · rename_i n hn
        simp only [Op.equalIn, Sem.run_bind, run_underlying hu, Result.andThen_ok, run_sizeOf hn]
        rw [Std.Legacy.Range.forIn_eq_forIn_range']
        have hr : List.range' [:len].start [:len].size [:len].step = List.range len := by
          simp [List.range_eq_range', Std.Legacy.Range.size]
        rw [hr]
        generalize List.range len = l at h
        clear hr
        induction l generalizing b with
        | nil => simp at h; subst h; simp
        | cons i l ih =>
          simp only [List.foldr_cons] at h
          split at h
          · simp at h
          · rename_i r hr
            split at h
            · rename_i ha
              split at h
              · rename_i b1 hb
                simp at h; subst h
                have q := eqA_sound d d' e _ _ _ _ b1 hd hb (VR_slice hxa (i * n) n) (VR_slice hya (i * n) n)
                simp only [List.forIn_cons, Sem.run_bind, run_part_agg ha hn, Result.andThen_ok, q]
                cases b1 with
                | false => simp
                | true => simpa using ih r hr
              · simp at h
            · rename_i ha
              split at h
              · rename_i u v hu2 hv
                split at h
                · rename_i b1 hb
                  simp at h; subst h
                  obtain ⟨u', hu', hru⟩ := VRs_get hxa _ _ hu2
                  obtain ⟨v', hv', hrv⟩ := VRs_get hya _ _ hv
                  simp only [Array.getElem?_toList] at hu' hv'
                  have q := eqA_sound d d' e u v u' v' b1 hd hb hru hrv
                  simp only [List.forIn_cons, Sem.run_bind, run_part_cell ha hu', run_part_cell ha hv', Result.andThen_ok, q]
                  cases b1 with
                  | false => simp
                  | true => simpa using ih r hr
                · simp at h
              · simp at h
            · simp at h
    · simp at h
end
end Go.Sx

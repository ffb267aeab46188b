/- Several texts in one. -/
import Derived.Test.YtkbcfbehebbmhaaGreatSxD
import Derived.Laws.StructEq
set_option linter.unusedSimpArgs false
set_option linter.unusedVariables false
set_option linter.unnecessarySimpa false
/- What the executor's operations answer, the machine's operations answer (all but calls). -/
namespace Go.Sx
open Go

section
variable {P : Program} {w : World}

theorem VR_ofS {ρ : Env} (x : Value) : VR ρ (ofS x) x := by
  unfold ofS
  split
  · simp [VR]
  · rename_i k n
    cases h : decide (den k (BitVec.ofInt k.bits n) = n) with
    | false => simp [VR]
    | true => simp only [cond_true, VR]; rw [of_decide_eq_true h]
  all_goals simp [VR]
theorem VR_ofV {ρ : Env} (x : Value) : VR ρ (ofV x) x := by
  unfold ofV
  split
  · rename_i cs
    simp only [VR]
    refine ⟨cs, rfl, ?_⟩
    have := VRs_map (ρ := ρ) ofS id cs.toList (fun x _ => VR_ofS x)
    simpa using this
  · exact VR_ofS _
theorem VRs_cellsOf {ρ : Env} {v : AV} {x : Value} (h : VR ρ v x) (hc : allCells (cellsOf v) = true) : VRs ρ (cellsOf v) x.cells.toList := by
  cases v <;> simp only [cellsOf, allCells, isCell, Bool.and_true] at hc ⊢ <;> simp only [VR] at h
  case agg l => obtain ⟨a, rfl, ha⟩ := h; simpa [Value.cells] using ha
  case any => simp at hc
  case tup => simp at hc
  case bool => subst h; simp [Value.cells]; exact VRs_one (by simp [VR])
  case int => subst h; simp [Value.cells]; exact VRs_one (by simp [VR])
  case ptr => obtain ⟨l, hl, rfl⟩ := h; simp [Value.cells]; exact VRs_one (by simp only [VR]; exact ⟨l, hl, rfl⟩)
  case nilptr => subst h; simp [Value.cells]; exact VRs_one (by simp [VR])
  case slice => obtain ⟨l, cap, h1, h2, h3, h4, rfl⟩ := h; simp [Value.cells]; exact VRs_one (by simp only [VR]; exact ⟨l, cap, h1, h2, h3, h4, rfl⟩)
  case nilslice => subst h; simp [Value.cells]; exact VRs_one (by simp [VR])
  case func => obtain ⟨a, c, rfl, h1, h2⟩ := h; simp [Value.cells]; exact VRs_one (by simp only [VR]; exact ⟨a, c, rfl, h1, h2⟩)
  case nilfunc => subst h; simp [Value.cells]; exact VRs_one (by simp [VR])
  case iface => obtain ⟨y, rfl, hy⟩ := h; simp [Value.cells]; exact VRs_one (by simp only [VR]; exact ⟨y, rfl, hy⟩)
  case nilface => subst h; simp [Value.cells]; exact VRs_one (by simp [VR])
  case lit v => 
    subst h
    have : x.cells.toList = [x] := by cases x <;> simp [Value.oneCell'] at hc <;> rfl
    rw [this]; exact VRs_one (by simp [VR])

/-! whole numbers -/
theorem intBin_sound {R : Type} {op : BinOp} {k : IntKind} {x y : BitVec k.bits} {K : AV → Option R} {r : R} (t : TypeId) (h : intBin op k x y K = some r) :
    ∃ v, K v = some r ∧ ∀ (ρ : Env) (w : World), ∃ z, (binOp op t (.int k (den k x)) (.int k (den k y))).run P w = .ok z w ∧ VR ρ v z := by
  unfold intBin at h
  split at h
  · exact ⟨_, h, fun ρ w => ⟨.int k (den k (x + y)), by simp [binOp, Op.intArith, den_add], by simp [VR]⟩⟩
  · exact ⟨_, h, fun ρ w => ⟨.int k (den k (x - y)), by simp [binOp, Op.intArith, den_sub], by simp [VR]⟩⟩
  · exact ⟨_, h, fun ρ w => ⟨.int k (den k (x * y)), by simp [binOp, Op.intArith, den_mul], by simp [VR]⟩⟩
  · cases hy : (y == 0) with
    | true => rw [hy] at h; simp at h
    | false =>
      rw [hy] at h; simp only [cond_false] at h
      have : ¬ den k y = 0 := by rw [den_zero]; intro e; simp [e] at hy
      exact ⟨_, h, fun ρ w => ⟨.int k (den k (quoA k x y)), by simp [binOp, Op.intDiv, this, den_quo], by simp [VR]⟩⟩
  · cases hy : (y == 0) with
    | true => rw [hy] at h; simp at h
    | false =>
      rw [hy] at h; simp only [cond_false] at h
      have : ¬ den k y = 0 := by rw [den_zero]; intro e; simp [e] at hy
      exact ⟨_, h, fun ρ w => ⟨.int k (den k (remA k x y)), by simp [binOp, Op.intDiv, this, den_rem], by simp [VR]⟩⟩
  · exact ⟨_, h, fun ρ w => ⟨.int k (den k (x &&& y)), by simp only [binOp, Op.intBits, ofInt_den]; simp only [ne_eq, not_true_eq_false, if_false, Sem.run_pure, wrap_toNat], by simp [VR]⟩⟩
  · exact ⟨_, h, fun ρ w => ⟨.int k (den k (x ||| y)), by simp only [binOp, Op.intBits, ofInt_den]; simp only [ne_eq, not_true_eq_false, if_false, Sem.run_pure, wrap_toNat], by simp [VR]⟩⟩
  · exact ⟨_, h, fun ρ w => ⟨.int k (den k (x ^^^ y)), by simp only [binOp, Op.intBits, ofInt_den]; simp only [ne_eq, not_true_eq_false, if_false, Sem.run_pure, wrap_toNat], by simp [VR]⟩⟩
  · exact ⟨_, h, fun ρ w => ⟨.int k (den k (x &&& ~~~y)), by simp only [binOp, Op.intBits, ofInt_den]; simp only [ne_eq, not_true_eq_false, if_false, Sem.run_pure, wrap_toNat], by simp [VR]⟩⟩
  · exact ⟨_, h, fun ρ w => ⟨.bool (x == y), by simp only [binOp, Op.intCmp, den_eq]; simp, by simp [VR]⟩⟩
  · exact ⟨_, h, fun ρ w => ⟨.bool (!(x == y)), by simp only [binOp, Op.intCmp, bne, den_eq]; simp, by simp [VR]⟩⟩
  · exact ⟨_, h, fun ρ w => ⟨.bool (ltA k x y), by simp only [binOp, Op.intCmp, den_lt]; simp, by simp [VR]⟩⟩
  · exact ⟨_, h, fun ρ w => ⟨.bool (leA k x y), by simp only [binOp, Op.intCmp, den_le]; simp, by simp [VR]⟩⟩
  · exact ⟨_, h, fun ρ w => ⟨.bool (ltA k y x), by simp only [binOp, Op.intCmp, gt_iff_lt, den_lt]; simp, by simp [VR]⟩⟩
  · exact ⟨_, h, fun ρ w => ⟨.bool (leA k y x), by simp only [binOp, Op.intCmp, ge_iff_le, den_le]; simp, by simp [VR]⟩⟩
  · simp at h
  · simp at h

/-! what is the same -/
theorem run_part_agg {t : TypeId} {n : Nat} (ha : isAggT P t = some true) (hn : szOf P t = some n) (cs : Array Value) (o : Nat) : (part t cs o).run P w = .ok (.agg (cs.extract o (o + n))) w := by
  simp [part, run_isAgg ha, run_sizeOf hn]
theorem run_part_cell {t : TypeId} {cs : Array Value} {o : Nat} {v : Value} (ha : isAggT P t = some false) (h : cs[o]? = some v) : (part t cs o).run P w = .ok v w := by
  simp [part, run_isAgg ha, h]
theorem VR_slice {ρ : Env} {l : List AV} {a : Array Value} (h : VRs ρ l a.toList) (o n : Nat) : VR ρ (.agg ((l.drop o).take n)) (.agg (a.extract o (o + n))) := by
  simp only [VR]
  refine ⟨_, rfl, ?_⟩
  have := VRs_take n (VRs_drop o h)
  simpa [Array.toList_extract, List.extract_eq_take_drop, Nat.add_sub_cancel_left] using this

theorem eqA_sound {ρ : Env} : ∀ (d d' : Nat) (t : TypeId) (x y : AV) (x' y' : Value) (b : Bool), d ≤ d' → eqA P d t x y = some b → VR ρ x x' → VR ρ y y' → (Op.equalIn d' t x' y').run P w = .ok b w
  | 0, _, _, _, _, _, _, _, _, h, _, _ => by simp [eqA] at h
  | d + 1, 0, _, _, _, _, _, _, hd, _, _, _ => by omega
  | d + 1, d' + 1, t, x, y, x', y', b, hd, h, hx, hy => by
    have hd : d ≤ d' := by omega
    simp only [eqA] at h
    split at h
    · rename_i hu; simp only [VR] at hx hy; subst hx; subst hy; simp at h; subst h; simp [Op.equalIn, run_underlying hu]
    · rename_i hu
      simp only [VR] at hx hy; subst hx; subst hy
      split at h
      · rename_i hk; subst hk; simp at h; subst h; simp only [Op.equalIn, Sem.run_bind, run_underlying hu, Result.andThen_ok, if_true, Sem.run_pure, den_eq]
      · simp at h
    · rename_i hu; simp only [VR] at hx hy; subst hx; subst hy; simp at h; subst h; simp [Op.equalIn, run_underlying hu]
    · rename_i hu; simp only [VR] at hx hy; obtain ⟨l, _, rfl⟩ := hy; subst hx; simp at h; subst h; simp [Op.equalIn, run_underlying hu]
    · rename_i hu; simp only [VR] at hx hy; obtain ⟨l, _, rfl⟩ := hx; subst hy; simp at h; subst h; simp [Op.equalIn, run_underlying hu]
    · rename_i hu; simp only [VR] at hx hy; obtain ⟨l, rfl, _⟩ := hy; subst hx; simp at h; subst h; simp [Op.equalIn, run_underlying hu]
    · rename_i hu; simp only [VR] at hx hy; obtain ⟨l, rfl, _⟩ := hx; subst hy; simp at h; subst h; simp [Op.equalIn, run_underlying hu]
    · rename_i hu; simp only [VR] at hx hy; subst hx; subst hy; simp at h; subst h; simp [Op.equalIn, run_underlying hu]
    · rename_i hu; simp only [VR] at hx hy; obtain ⟨l, cap, _, _, _, _, rfl⟩ := hy; subst hx; simp at h; subst h; simp [Op.equalIn, run_underlying hu]
    · rename_i hu; simp only [VR] at hx hy; obtain ⟨l, cap, _, _, _, _, rfl⟩ := hx; subst hy; simp at h; subst h; simp [Op.equalIn, run_underlying hu]
    · rename_i hu; simp only [VR] at hx hy; subst hx; subst hy; simp at h; subst h; simp [Op.equalIn, run_underlying hu]
    · rename_i hu; simp only [VR] at hx hy; obtain ⟨a, c, rfl, _⟩ := hy; subst hx; simp at h; subst h; simp [Op.equalIn, run_underlying hu]
    · rename_i hu; simp only [VR] at hx hy; obtain ⟨a, c, rfl, _⟩ := hx; subst hy; simp at h; subst h; simp [Op.equalIn, run_underlying hu]
    · rename_i fs xs ys hu
      simp only [VR] at hx hy
      obtain ⟨xa, rfl, hxa⟩ := hx
      obtain ⟨ya, rfl, hya⟩ := hy
      cases hp : P.stoodInHeld t with
      | true => simp [hp] at h
      | false =>
        simp only [hp, cond_false] at h
        have hf : P.underlying t = some (.struct (P.fieldsOf t)) := by simp [Program.fieldsOf, hu]
        rw [run_equalIn_struct w d' t xa ya hf hp]
        have hfs : P.fieldsOf t = fs := by simp [Program.fieldsOf, hu]
        rw [hfs]
        generalize fs.toList = l at h
        clear hf hfs hu
        induction l generalizing b with
        | nil => simp at h; subst h; simp [Op.eqFields]
        | cons f l ih =>
          simp only [List.foldr_cons] at h
          split at h
          · simp at h
          · rename_i r hr
            split at h
            · rename_i hn
              simp at h; subst h
              simp only [Op.eqFields, hn, ne_eq, not_true_eq_false, if_false]
              exact ih r hr
            · rename_i hn
              simp only [Op.eqFields, hn, ne_eq, not_false_eq_true, if_true]
              split at h
              · rename_i n ha hs
                split at h
                · rename_i b1 hb
                  simp at h; subst h
                  have e := eqA_sound d d' f.type _ _ _ _ b1 hd hb (VR_slice hxa f.offset n) (VR_slice hya f.offset n)
                  simp only [Sem.run_bind, run_part_agg ha hs, Result.andThen_ok, e]
                  cases b1 with
                  | false => simp
                  | true => simpa using ih r hr
                · simp at h
              · rename_i ha
                split at h
                · rename_i u v hu hv
                  split at h
                  · rename_i b1 hb
                    simp at h; subst h
                    obtain ⟨u', hu', hru⟩ := VRs_get hxa _ _ hu
                    obtain ⟨v', hv', hrv⟩ := VRs_get hya _ _ hv
                    simp only [Array.getElem?_toList] at hu' hv'
                    have e := eqA_sound d d' f.type u v u' v' b1 hd hb hru hrv
                    simp only [Sem.run_bind, run_part_cell ha hu', run_part_cell ha hv', Result.andThen_ok, e]
                    cases b1 with
                    | false => simp
                    | true => simpa using ih r hr
                  · simp at h
                · simp at h
              · simp at h
    · rename_i len e xs ys hu
      simp only [VR] at hx hy
      obtain ⟨xa, rfl, hxa⟩ := hx
      obtain ⟨ya, rfl, hya⟩ := hy
      split at h
      · simp at h
      · rename_i n hn
        simp only [Op.equalIn, Sem.run_bind, run_underlying hu, Result.andThen_ok, run_sizeOf hn]
        rw [Std.Legacy.Range.forIn_eq_forIn_range']
        have hr : List.range' [:len].start [:len].size [:len].step = List.range len := by
          simp [List.range_eq_range', Std.Legacy.Range.size]
        rw [hr]
        generalize List.range len = l at h
        clear hr
        induction l generalizing b with
        | nil => simp at h; subst h; simp
        | cons i l ih =>
          simp only [List.foldr_cons] at h
          split at h
          · simp at h
          · rename_i r hr
            split at h
            · rename_i ha
              split at h
              · rename_i b1 hb
                simp at h; subst h
                have q := eqA_sound d d' e _ _ _ _ b1 hd hb (VR_slice hxa (i * n) n) (VR_slice hya (i * n) n)
                simp only [List.forIn_cons, Sem.run_bind, run_part_agg ha hn, Result.andThen_ok, q]
                cases b1 with
                | false => simp
                | true => simpa using ih r hr
              · simp at h
            · rename_i ha
              split at h
              · rename_i u v hu2 hv
                split at h
                · rename_i b1 hb
                  simp at h; subst h
                  obtain ⟨u', hu', hru⟩ := VRs_get hxa _ _ hu2
                  obtain ⟨v', hv', hrv⟩ := VRs_get hya _ _ hv
                  simp only [Array.getElem?_toList] at hu' hv'
                  have q := eqA_sound d d' e u v u' v' b1 hd hb hru hrv
                  simp only [List.forIn_cons, Sem.run_bind, run_part_cell ha hu', run_part_cell ha hv', Result.andThen_ok, q]
                  cases b1 with
                  | false => simp
                  | true => simpa using ih r hr
                · simp at h
              · simp at h
            · simp at h
    · simp at h
end
end Go.Sx

/- What the executor's operations answer, the machine's operations answer: the operations one by one. -/
namespace Go.Sx
open Go

section
variable {P : Program} {w : World} {ρ : Env} {R : Type} {r : R}

def plain : AV → Bool
  | .any | .int _ _ | .lit _ => false
  | _ => true
theorem eqA_plain {d : Nat} {t : TypeId} {x y : AV} {b : Bool} (h : eqA P d t x y = some b) : (∃ k v k' v', x = .int k v ∧ y = .int k' v') ∨ plain x = true ∧ (x = .nilface → y ≠ .nilface) := by
  cases d with
  | zero => simp [eqA] at h
  | succ d =>
    simp only [eqA] at h
    split at h
    case h_2 => exact .inl ⟨_, _, _, _, rfl, rfl⟩
    case h_16 => simp at h
    all_goals exact .inr ⟨rfl, by simp⟩
theorem binOp_eql_plain {x y : AV} {x' y' : Value} (t : TypeId) (hx : plain x = true) (h : VR ρ x x') : binOp .eql t x' y' = (do pure (.bool (← Op.equal t x' y'))) ∧ binOp .neq t x' y' = (do pure (.bool (!(← Op.equal t x' y')))) := by
  cases x <;> simp [plain] at hx <;> simp only [VR] at h
  case bool => subst h; exact ⟨rfl, rfl⟩
  case ptr => obtain ⟨_, _, rfl⟩ := h; exact ⟨rfl, rfl⟩
  case nilptr => subst h; exact ⟨rfl, rfl⟩
  case slice => obtain ⟨_, _, _, _, _, _, rfl⟩ := h; exact ⟨rfl, rfl⟩
  case nilslice => subst h; exact ⟨rfl, rfl⟩
  case func => obtain ⟨_, _, rfl, _⟩ := h; exact ⟨rfl, rfl⟩
  case nilfunc => subst h; exact ⟨rfl, rfl⟩
  case iface => obtain ⟨_, rfl, _⟩ := h; exact ⟨rfl, rfl⟩
  case nilface => subst h; exact ⟨rfl, rfl⟩
  case agg => obtain ⟨_, rfl, _⟩ := h; exact ⟨rfl, rfl⟩
  case tup => obtain ⟨_, rfl, _⟩ := h; exact ⟨rfl, rfl⟩
theorem eqGuard_int (op : BinOp) (t : TypeId) (ox oy : Operand) (k k' : IntKind) (a b : Int) : (eqGuard op t ox oy (.int k a) (.int k' b)).run P w = .ok () w := by
  cases op <;> simp [eqGuard]
theorem eqGuard_plain (op : BinOp) (t : TypeId) (ox oy : Operand) (x' y' : Value) (hm : P.eqGuardType P.depth t = false) (h : x' = .nilIface → y' ≠ .nilIface) : (eqGuard op t ox oy x' y').run P w = .ok () w := by
  unfold eqGuard
  cases op <;> simp only [Bool.not_true, Bool.not_false, Bool.false_eq_true, if_false, if_true, Sem.run_pure, Result.andThen_ok] <;> (
    split
    · rename_i e1 e2; exact absurd rfl (h rfl)
    · simp [hm]
    · simp)
theorem VR_nilface {x : AV} {y : AV} {x' y' : Value} (hp : plain x = true) (hx : VR ρ x x') (hy : VR ρ y y') (h : x = .nilface → y ≠ .nilface) (he : ∃ d t b, eqA P d t x y = some b) : x' = .nilIface → y' ≠ .nilIface := by
  obtain ⟨d, t, b, he⟩ := he
  intro e1 e2
  subst e1; subst e2
  cases x <;> simp [plain] at hp <;> simp only [VR] at hx <;> try (simp at hx; done)
  case nilface =>
    cases d with
    | zero => simp [eqA] at he
    | succ d =>
      simp only [eqA] at he
      split at he <;> first | (simp at he; done) | (simp_all [VR]; done)

theorem binA_sound {op : BinOp} {t : TypeId} {x y : AV} {K : AV → Option R} (h : binA P op t x y K = some r) :
    ∃ v, K v = some r ∧ ∀ (ρ : Env) (w : World) (x' y' : Value) (ox oy : Operand), VR ρ x x' → VR ρ y y' → ∃ z, (eqGuard op t ox oy x' y').run P w = .ok () w ∧ (binOp op t x' y').run P w = .ok z w ∧ VR ρ v z := by
  unfold binA at h
  split at h
  · rename_i k a yk b
    cases hn : nonneg yk b with
    | false => simp [hn] at h
    | true =>
      simp only [hn, cond_true] at h
      refine ⟨_, h, fun ρ w x' y' ox oy hx hy => ⟨.int k (den k (shlA a b.toNat)), ?_, ?_, by simp [VR]⟩⟩ <;> simp only [VR] at hx hy <;> subst hx <;> subst hy
      · exact eqGuard_int _ _ _ _ _ _ _ _
      · have hd := nonneg_den hn
        simp only [binOp, Op.shift, hd]
        rw [if_neg (by omega)]
        simp only [Int.toNat_natCast, Sem.run_pure, den_shl]
  · rename_i k a yk b
    cases hn : nonneg yk b with
    | false => simp [hn] at h
    | true =>
      simp only [hn, cond_true] at h
      refine ⟨_, h, fun ρ w x' y' ox oy hx hy => ⟨.int k (den k (shrA k a b.toNat)), ?_, ?_, by simp [VR]⟩⟩ <;> simp only [VR] at hx hy <;> subst hx <;> subst hy
      · exact eqGuard_int _ _ _ _ _ _ _ _
      · have hd := nonneg_den hn
        simp only [binOp, Op.shift, hd]
        rw [if_neg (by omega)]
        simp only [Int.toNat_natCast, Sem.run_pure, den_shr]
  · rename_i k a k' b
    split at h
    · rename_i hk; subst hk
      obtain ⟨v, hv, hz⟩ := intBin_sound (P := P) t h
      refine ⟨v, hv, fun ρ w x' y' ox oy hx hy => ?_⟩
      simp only [VR] at hx hy; subst hx; subst hy
      obtain ⟨z, hz, hr⟩ := hz ρ w
      exact ⟨z, eqGuard_int _ _ _ _ _ _ _ _, hz, hr⟩
    · simp at h
  · cases hm : P.eqGuardType P.depth t with
    | true => simp [hm] at h
    | false =>
      simp only [hm, cond_false] at h
      split at h
      · rename_i b hb
        rcases eqA_plain hb with ⟨k, v, k', v', rfl, rfl⟩ | ⟨hp, hnf⟩
        · exfalso; rename_i hne; exact hne k v k' v' rfl rfl
        · refine ⟨_, h, fun ρ w x' y' ox oy hx hy => ⟨.bool b, eqGuard_plain _ _ _ _ _ _ hm (VR_nilface hp hx hy hnf ⟨_, _, _, hb⟩), ?_, by simp [VR]⟩⟩
          rw [(binOp_eql_plain (y := y) t hp hx).1]
          simp [Op.equal, eqA_sound 100 Op.maxDepth t x y x' y' b (by decide) hb hx hy]
      · simp at h
  · cases hm : P.eqGuardType P.depth t with
    | true => simp [hm] at h
    | false =>
      simp only [hm, cond_false] at h
      split at h
      · rename_i b hb
        rcases eqA_plain hb with ⟨k, v, k', v', rfl, rfl⟩ | ⟨hp, hnf⟩
        · exfalso; rename_i hne; exact hne k v k' v' rfl rfl
        · refine ⟨_, h, fun ρ w x' y' ox oy hx hy => ⟨.bool (!b), eqGuard_plain _ _ _ _ _ _ hm (VR_nilface hp hx hy hnf ⟨_, _, _, hb⟩), ?_, by simp [VR]⟩⟩
          rw [(binOp_eql_plain (y := y) t hp hx).2]
          simp [Op.equal, eqA_sound 100 Op.maxDepth t x y x' y' b (by decide) hb hx hy]
      · simp at h
  · simp at h

theorem nilA_sound {op : BinOp} {t : TypeId} {v : AV} {y : Operand} {b : Bool} (h : nilA P op t v y = some b) : ∀ (ρ : Env) (w : World) (x' y' : Value) (ox : Operand), VR ρ v x' → (∀ z, y = .const z → VR ρ (ofV z) y') →
    (eqGuard op t ox y x' y').run P w = .ok () w ∧ (binOp op t x' y').run P w = .ok (.bool b) w := by
  intro ρ w x' y' ox hx hy
  unfold nilA at h
  split at h
  · have hy' := hy _ rfl
    simp only [ofV, ofS, VR] at hy'
    subst hy'
    split at h
    · rename_i ms hu
      have hm : Op.maxDepth = (Op.maxDepth - 1) + 1 := by decide
      split at h
      · simp only [Option.some.injEq] at h; subst h
        simp only [VR] at hx; subst hx
        refine ⟨by simp [eqGuard], ?_⟩
        show ((do pure (.bool (← Op.equal t .nilIface .nilIface))) : Sem Value).run P w = _
        unfold Op.equal; rw [hm]; simp [Op.equalIn, run_underlying hu]
      · simp only [Option.some.injEq] at h; subst h
        simp only [VR] at hx; obtain ⟨a, rfl, _⟩ := hx
        refine ⟨by simp [eqGuard], ?_⟩
        show ((do pure (.bool (← Op.equal t (.iface _ a) .nilIface))) : Sem Value).run P w = _
        unfold Op.equal; rw [hm]; simp [Op.equalIn, run_underlying hu]
      · simp only [Option.some.injEq] at h; subst h
        simp only [VR] at hx; subst hx
        refine ⟨by simp [eqGuard], ?_⟩
        show ((do pure (.bool (!(← Op.equal t .nilIface .nilIface)))) : Sem Value).run P w = _
        unfold Op.equal; rw [hm]; simp [Op.equalIn, run_underlying hu]
      · simp only [Option.some.injEq] at h; subst h
        simp only [VR] at hx; obtain ⟨a, rfl, _⟩ := hx
        refine ⟨by simp [eqGuard], ?_⟩
        show ((do pure (.bool (!(← Op.equal t (.iface _ a) .nilIface)))) : Sem Value).run P w = _
        unfold Op.equal; rw [hm]; simp [Op.equalIn, run_underlying hu]
      · simp at h
    · simp at h
  · simp at h
theorem unA_sound {op : UnOp} {x v : AV} {x' : Value} (h : unA op x = some v) (hx : VR ρ x x') : ∃ z, (Op.unary op x').run P w = .ok z w ∧ VR ρ v z := by
  unfold unA at h
  split at h <;> simp only [Option.some.injEq, reduceCtorEq] at h
  · rename_i k n
    subst h; simp only [VR] at hx; subst hx
    exact ⟨.int k (den k (-n)), by simp only [Op.unary, Op.intArith, Sem.run_pure, den_neg], by simp only [VR]⟩
  · subst h; simp only [VR] at hx; subst hx
    rename_i k n
    refine ⟨.int k (den k (~~~n)), ?_, by simp only [VR]⟩
    simp only [Op.unary, Op.intBits, ofInt_den]
    have : BitVec.ofInt k.bits (if k.signed = true then -1 else k.max) = BitVec.allOnes k.bits := by
      unfold IntKind.max
      cases hs : k.signed <;> simp only [Bool.false_eq_true, if_false, if_true]
      · cases k <;> simp [IntKind.signed] at hs <;> rfl
      · cases k <;> simp [IntKind.signed] at hs <;> rfl
    rw [this]
    rw [BitVec.xor_comm, BitVec.xor_allOnes]; simp only [Sem.run_pure, wrap_toNat]
  · rename_i b
    subst h; simp only [VR] at hx; subst hx
    exact ⟨.bool (!b), by simp only [Op.unary, Sem.run_pure], by simp only [VR]⟩

/-- A value out of its cells. -/
theorem aggOr_part {t : TypeId} {n : Nat} {cs : List AV} {K : AV → Option R} (hn : szOf P t = some n) (h : aggOr P t cs K = some r) (hc : cs.length = n) :
    ∃ v, K v = some r ∧ ∀ (ρ : Env) (w : World) (a : Array Value) (o : Nat), VRs ρ cs (a.toList.drop o |>.take n) → ∃ y, (part t a o).run P w = .ok y w ∧ VR ρ v y := by
  unfold aggOr at h
  split at h
  · rename_i ha
    refine ⟨_, h, fun ρ w a o hv => ⟨_, run_part_agg ha hn a o, ?_⟩⟩
    simp only [VR]
    refine ⟨_, rfl, ?_⟩
    simpa [Array.toList_extract, List.extract_eq_take_drop, Nat.add_sub_cancel_left] using hv
  · rename_i ha
    split at h
    · rename_i v
      refine ⟨v, h, fun ρ w a o hv => ?_⟩
      obtain ⟨y, hy, hr⟩ := VRs_one_iff.1 hv
      refine ⟨y, run_part_cell ha ?_, hr⟩
      have h0 : (List.take n (List.drop o a.toList))[0]? = some y := by rw [hy]; rfl
      rw [List.getElem?_take_of_lt (by simp at hc; omega), List.getElem?_drop] at h0
      simpa using h0
    · simp at h
  · simp at h

/-! building -/
theorem VRs_splice {l vs : List AV} {ys zs : List Value} (h : VRs ρ l ys) (hv : VRs ρ vs zs) (o : Nat) : VRs ρ (splice l o vs) (ys.take o ++ (zs ++ ys.drop (o + zs.length))) := by
  unfold splice
  rw [VRs_length hv]
  exact VRs_append (VRs_take o h) (VRs_append hv (VRs_drop _ h))
theorem foldl_set : ∀ (vs : List Value) (cs : Array Value) (o k : Nat), o + k + vs.length ≤ cs.size →
    (((vs.zipIdx k).foldl (fun cs (x : Value × Nat) => cs.setIfInBounds (o + x.2) x.1) cs).toList = cs.toList.take (o + k) ++ (vs ++ cs.toList.drop (o + k + vs.length)))
  | [], cs, o, k, _ => by simp
  | v :: vs, cs, o, k, h => by
    simp only [List.length_cons] at h
    simp only [List.zipIdx_cons, List.foldl_cons]
    rw [foldl_set vs _ o (k + 1) (by simp; omega)]
    simp only [Array.toList_setIfInBounds, List.length_cons]
    apply List.ext_getElem?
    intro j
    rcases Nat.lt_or_ge j (o + k) with hj | hj
    · rw [List.getElem?_append_left (by simp; omega), List.getElem?_append_left (by simp; omega), List.getElem?_take_of_lt (by omega), List.getElem?_take_of_lt (by omega), List.getElem?_set_ne (by omega)]
    · rcases Nat.lt_or_ge j (o + k + 1) with hj2 | hj2
      · have : j = o + k := by omega
        subst this
        rw [List.getElem?_append_left (by simp; omega), List.getElem?_take_of_lt (by omega), List.getElem?_append_right (by simp; omega)]
        rw [List.getElem?_set_self (by simp; omega)]
        simp [show o + k ≤ cs.size by omega]
      · rw [List.getElem?_append_right (by simp; omega), List.getElem?_append_right (by simp; omega) (l₁ := List.take (o + k) _)]
        simp only [List.length_take, List.length_set, Array.length_toList]
        rw [Nat.min_eq_left (by omega), Nat.min_eq_left (by omega)]
        obtain ⟨m, rfl⟩ : ∃ m, j = o + k + 1 + m := ⟨j - (o + k + 1), by omega⟩
        rw [show o + k + 1 + m - (o + (k + 1)) = m by omega, show o + k + 1 + m - (o + k) = m + 1 by omega]
        simp only [List.cons_append, List.getElem?_cons_succ]
        congr 2
        rw [show o + (k + 1) + vs.length = o + k + (vs.length + 1) by omega]
        rw [List.drop_set_of_lt (by omega)]
theorem fillA_sound {place : Nat → Option (Nat × Nat)} : ∀ {parts : List (Nat × AV)} {cs : List AV} {out : List AV} {ps : List (Nat × Value)} {a : Array Value}, fillA place cs parts = some out → VRs ρ cs a.toList →
    ps.map (·.1) = parts.map (·.1) → (∀ (i : Nat) (v : Nat × AV) (x : Nat × Value), parts[i]? = some v → ps[i]? = some x → VR ρ v.2 x.2) → ∃ b, Instr.fill place a ps = some b ∧ VRs ρ out b.toList
  | [], cs, out, ps, a, h, hv, hp, _ => by
    simp only [fillA, Option.some.injEq] at h; subst h
    have : ps = [] := by simpa using hp
    subst this
    exact ⟨a, rfl, hv⟩
  | (i, v) :: parts, cs, out, [], a, h, hv, hp, _ => by simp at hp
  | (i, v) :: parts, cs, out, (i', x) :: ps, a, h, hv, hp, hr => by
    simp only [List.map_cons, List.cons.injEq] at hp
    obtain ⟨rfl, hp⟩ := hp
    have hvx : VR ρ v x := hr 0 _ _ rfl rfl
    simp only [fillA] at h
    split at h
    · simp at h
    · rename_i off size hpl
      cases hc : (Nat.beq (cellsOf v).length size && Nat.ble (off + (cellsOf v).length) cs.length && allCells (cellsOf v)) with
      | false => rw [hc] at h; simp at h
      | true =>
        rw [hc] at h
        simp only [cond_true] at h
        simp only [Bool.and_eq_true, beq_true, ble_true] at hc
        obtain ⟨⟨hc1, hc2⟩, hc3⟩ := hc
        have hxc := VRs_cellsOf hvx hc3
        have hl := VRs_length hxc
        have hla := VRs_length hv
        simp only [Instr.fill, hpl]
        rw [if_neg (by
          have : x.cells.size = (cellsOf v).length := by simpa using hl.symm
          have h2 : cs.length = a.size := by simpa using hla
          simp [this, hc1]; omega)]
        refine fillA_sound h ?_ hp (fun j u y hu hy => hr (j + 1) u y (by simpa using hu) (by simpa using hy))
        have := foldl_set x.cells.toList a off 0 (by have : cs.length = a.size := by simpa using hla
                                                     omega)
        simp only [Nat.add_zero] at this
        have e : (x.cells.zipIdx.foldl (fun cs (z : Value × Nat) => cs.setIfInBounds (off + z.2) z.1) a).toList = a.toList.take off ++ (x.cells.toList ++ a.toList.drop (off + x.cells.toList.length)) := by
          rw [← this, ← Array.foldl_toList, Array.toList_zipIdx]
        rw [e]
        exact VRs_splice hv hxc off
theorem zeroA_sound {t : TypeId} {z : List AV} (h : zeroA P t = some z) (hc : allCells z = true) : ∃ v, (zeroValue t).run P w = .ok v w ∧ VRs ρ z v.cells.toList := by
  unfold zeroA at h
  split at h
  · rename_i i hi
    split at h
    · rename_i v hv
      simp at h; subst h
      exact ⟨v, by simp [zeroValue, run_typeInfo hi, hv], VRs_cellsOf (VR_ofV v) hc⟩
    · simp at h
  · simp at h
end
end Go.Sx

/- What the executor's operations answer, the machine's operations answer: memory. -/
namespace Go.Sx
open Go

section
variable {P : Program} {w : World} {ρ : Env} {R : Type} {r : R}

/-- What an operation must come to. -/
def Post (ρ : Env) (H : Heap) (N : Nat) (w : World) (e : Eff) (N' : Nat) (v : AV) (v' : Value) (w' : World) : Prop :=
  ∃ ρ', Step ρ H N w ρ' (H.upd e) N' w' ∧ VR ρ' v v'

theorem Post.same {H : Heap} {N : Nat} {v : AV} {v' : Value} (hi : Inv ρ H w) (h : VR ρ v v') : Post ρ H N w [] N v v' w := ⟨ρ, Step.refl hi, h⟩

/-- Names and places, one more. -/
def Env.add (ρ : Env) (N : Nat) (l : Loc) : Env := fun x => if x = N then some l else ρ x
theorem Env.add_le {N : Nat} {l : Loc} (h : ρ N = none) : ρ.le (ρ.add N l) := by
  intro x k hx
  unfold Env.add
  split
  · rename_i e; subst e; rw [h] at hx; simp at hx
  · exact hx
theorem Env.add_self {N : Nat} {l : Loc} : (ρ.add N l) N = some l := by simp [Env.add]

theorem Inv.none {H : Heap} {N : Nat} (hi : Inv ρ H w) (h : ρ N = none) : H.find N = none := by
  cases hf : H.find N with
  | none => rfl
  | some b => obtain ⟨l, hl, _⟩ := hi.blk N b hf; rw [h] at hl; simp at hl

theorem heap_alloc (w : World) (o : Obj) (k : Nat) : (w.alloc o).heap[k]? = if k = w.heap.size then some o else w.heap[k]? := by
  show (w.heap.push o)[k]? = _
  rw [Array.getElem?_push]
/-- A new block. -/
theorem step_new {H : Heap} {N : Nat} {s : List Seg} {ys : List Value} {c : Array Value} {e : TypeId} (hi : Inv ρ H w) (hN : ρ N = none) (hv : VRs ρ (flat s) ys) (hc : ∀ (j : Nat) (y : Value), ys[j]? = some y → c[j]? = some y) :
    Step ρ H N w (ρ.add N ⟨w.heap.size, 0, c.size, true⟩) (H.put N ⟨true, s⟩) (N + 1) (w.alloc (.cells c e)) where
  ext x hx := by simp [Env.add]; intro h; omega
  os := rfl
  tape := rfl
  output := rfl
  size := by simp
  block b hb _ := by rw [heap_alloc, if_neg (by omega)]
  inv := by
    have hle := Env.add_le (l := ⟨w.heap.size, 0, c.size, true⟩) hN
    constructor
    · intro x b hx
      rw [find_put] at hx
      split at hx
      · rename_i hxe; subst hxe
        simp at hx; subst hx
        refine ⟨_, Env.add_self, c, e, (0, 0), by rw [heap_alloc, if_pos rfl], rfl, fun _ => ⟨rfl, rfl⟩, fun o v hv' => ?_⟩
        obtain ⟨y, hy, hr⟩ := VRs_get hv o v hv'
        exact ⟨y, by simpa using hc o y hy, VR_mono hle _ _ hr⟩
      · obtain ⟨l, hl, hb⟩ := hi.blk x b hx
        refine ⟨l, hle _ _ hl, hb.mono hle ?_⟩
        have := hb.lt
        rw [heap_alloc, if_neg (by omega)]
    · intro x y bx b' lx ly hx hy hlx hly hrw hb
      rw [find_put] at hx hy
      by_cases h1 : x = N <;> by_cases h2 : y = N
      · rw [h1, h2]
      · subst h1
        rw [if_neg h2] at hy
        obtain ⟨l, hl, hbl⟩ := hi.blk y b' hy
        have := hle _ _ hl
        rw [hly] at this; simp at this; subst this
        rw [Env.add_self] at hlx; simp at hlx; subst hlx
        have := hbl.lt
        simp at hb; omega
      · subst h2
        rw [if_neg h1] at hx
        obtain ⟨l, hl, hbl⟩ := hi.blk x bx hx
        have := hle _ _ hl
        rw [hlx] at this; simp at this; subst this
        rw [Env.add_self] at hly; simp at hly; subst hly
        have := hbl.lt
        simp at hb; omega
      · rw [if_neg h1] at hx; rw [if_neg h2] at hy
        simp [Env.add, h1] at hlx
        simp [Env.add, h2] at hly
        exact hi.inj x y bx b' lx ly hx hy hlx hly hrw hb
  prov x k l hx hl := by
    rw [find_put] at hx
    split at hx
    · rename_i hxe; subst hxe
      rw [Env.add_self] at hl; simp at hl; subst hl
      exact .inr (Nat.le_refl _)
    · rename_i hxe
      simp [Env.add, hxe] at hl
      exact .inl ⟨x, k, l, hx, hl, rfl, id⟩

/-- Cells of a block that may be written, written. -/
theorem step_store {H : Heap} {N : Nat} {x : Nat} {b b' : Blk} {l : Loc} {c : Array Value} {e : TypeId} {p : Nat} {vs : List AV} {ys : List Value} (hi : Inv ρ H w) (hb : H.find x = some b) (hl : ρ x = some l) (hrw : b.rw = true) (hrw' : b'.rw = true)
    (hc : w.heap[l.b]? = some (.cells c e (0, 0))) (hv : VRs ρ vs ys) (hlen : l.o + p + ys.length ≤ c.size) (hp : p + vs.length ≤ (flat b.segs).length)
    (hf : flat b'.segs = (flat b.segs).take p ++ (vs ++ (flat b.segs).drop (p + vs.length))) :
    Step ρ H N w ρ (H.put x b') N { w with heap := w.heap.setIfInBounds l.b (.cells (writeC c (l.o + p) ys) e (0, 0)) } where
  ext _ _ := rfl
  os := rfl
  tape := rfl
  output := rfl
  size := by simp
  block k hk hn := by
    rw [heap_setIf w (lt_size hc)]
    rw [if_neg]
    rintro rfl
    obtain ⟨l', hl', hbr⟩ := hi.blk x b hb
    rw [hl] at hl'; simp at hl'; subst hl'
    obtain ⟨_, _, _, _, h2, _⟩ := hbr
    exact hn ⟨x, b, l, hb, hl, by rw [h2, hrw], rfl⟩
  inv := by
    obtain ⟨l', hl', hbr⟩ := hi.blk x b hb
    rw [hl] at hl'; simp at hl'; subst hl'
    obtain ⟨c', e', fr', h1, h2, h3, h4⟩ := hbr
    rw [hc] at h1; simp at h1
    obtain ⟨rfl, rfl, rfl⟩ := h1
    constructor
    · intro y by' hy
      rw [find_put] at hy
      split at hy
      · rename_i hye; subst hye
        simp at hy; subst hy
        refine ⟨l, hl, writeC c (l.o + p) ys, e, (0, 0), by rw [heap_setIf w (lt_size hc)]; simp, by rw [h2, hrw, hrw'], fun _ => ⟨rfl, by rw [writeC_size]; exact (h3 hrw).2⟩, fun o v hv' => ?_⟩
        rw [hf] at hv'
        rw [writeC_get _ _ _ _ (by omega)]
        have hvl := VRs_length hv
        rcases Nat.lt_or_ge o p with ho | ho
        · rw [List.getElem?_append_left (by simp; omega), List.getElem?_take_of_lt ho] at hv'
          rw [if_neg (by omega)]
          exact h4 o v hv'
        · rw [List.getElem?_append_right (by simp; omega)] at hv'
          simp only [List.length_take, Nat.min_eq_left (show p ≤ (flat b.segs).length by omega)] at hv'
          rcases Nat.lt_or_ge o (p + vs.length) with ho2 | ho2
          · rw [List.getElem?_append_left (by omega)] at hv'
            rw [if_pos (by omega)]
            obtain ⟨z, hz, hr⟩ := VRs_get hv _ _ hv'
            exact ⟨z, by rw [show l.o + o - (l.o + p) = o - p by omega]; exact hz, hr⟩
          · rw [List.getElem?_append_right (by omega), List.getElem?_drop] at hv'
            rw [show p + vs.length + (o - p - vs.length) = o by omega] at hv'
            rw [if_neg (by omega)]
            exact h4 o v hv'
      · rename_i hye
        obtain ⟨ly, hly, hby⟩ := hi.blk y by' hy
        refine ⟨ly, hly, hby.mono (fun _ _ h => h) ?_⟩
        rw [heap_setIf w (lt_size hc), if_neg]
        intro hh
        exact hye (hi.inj x y b by' l ly hb hy hl hly (by rw [h2, hrw]) hh.symm).symm
    · intro y z by' bz ly lz hy hz hly hlz hr hbb
      rw [find_put] at hy hz
      have hy' : ∃ q, H.find y = some q := by
        split at hy
        · rename_i h; subst h; exact ⟨b, hb⟩
        · exact ⟨_, hy⟩
      have hz' : ∃ q, H.find z = some q := by
        split at hz
        · rename_i h; subst h; exact ⟨b, hb⟩
        · exact ⟨_, hz⟩
      obtain ⟨q, hq⟩ := hy'
      obtain ⟨q', hq'⟩ := hz'
      exact hi.inj y z q q' ly lz hq hq' hly hlz hr hbb
  prov y q ly hy hly := by
    rw [find_put] at hy
    split at hy
    · rename_i h; subst h; exact .inl ⟨y, b, ly, hb, hly, rfl, id⟩
    · exact .inl ⟨y, q, ly, hy, hly, rfl, id⟩

/-- A name let go. -/
theorem Inv.del {H : Heap} (hi : Inv ρ H w) (x : Nat) : Inv ρ (H.del x) w := by
  constructor
  · intro y b hy
    rw [find_del] at hy
    split at hy
    · simp at hy
    · exact hi.blk y b hy
  · intro y z by' bz ly lz hy hz
    rw [find_del] at hy hz
    split at hy
    · simp at hy
    · split at hz
      · simp at hz
      · exact hi.inj y z by' bz ly lz hy hz
theorem step_del {H : Heap} {N : Nat} (hi : Inv ρ H w) (x : Nat) : Step ρ H N w ρ (H.del x) N w where
  ext _ _ := rfl
  os := rfl
  tape := rfl
  output := rfl
  size := Nat.le_refl _
  block _ _ _ := rfl
  inv := hi.del x
  prov y k l hy hl := by
    rw [find_del] at hy
    split at hy
    · simp at hy
    · exact .inl ⟨y, k, l, hy, hl, rfl, id⟩

theorem newA_sound {t : TypeId} {cs : List AV} {H : Heap} {N : Nat} {K : AV → Eff → Nat → Option R} (h : newA P t cs N K = some r) :
    ∃ v e N', K v e N' = some r ∧ N ≤ N' ∧ allCells cs = true ∧ ∀ ρ w x, VRs ρ cs x.cells.toList → Inv ρ H w → Fresh ρ N N' →
      ∃ z w', (newVar t x).run P w = .ok z w' ∧ Post ρ H N w e N' v (.pointer (some z)) w' := by
  unfold newA at h
  cases hc : allCells cs with
  | false => simp [hc] at h
  | true =>
    simp only [hc, cond_true] at h
    split at h
    · rename_i s hs
      refine ⟨_, _, _, h, by omega, rfl, fun ρ w x hx hi hf => ?_⟩
      refine ⟨⟨w.heap.size, 0, none⟩, w.alloc (.cells x.cells t), by simp [newVar, newRow], _, step_new (c := x.cells) hi (hf N (Nat.le_refl _) (by omega)) (ys := x.cells.toList) (by rw [mkSegs_flat hs]; exact hx) (fun j y h => by simpa using h), ?_⟩
      simp only [VR]
      exact ⟨_, Env.add_self, by simp [Loc.addr, AP.pos]⟩
    · simp at h

theorem storeA_sound {H : Heap} {N : Nat} {p : AP} {vs : List AV} {K : Blk → Option R} {t : TypeId} (h : storeA H p vs K = some r) :
    ∃ b', K b' = some r ∧ allCells vs = true ∧ ∀ ρ w x, VRs ρ vs x.cells.toList → Inv ρ H w → (szOf P t = some vs.length) →
      ∃ l w', ρ p.x = some l ∧ (storeVar t (l.addr p.pos) x).run P w = .ok () w' ∧ Step ρ H N w ρ (H.put p.x b') N w' := by
  obtain ⟨b', hk, hc, hv1, b, hb, hrw, hrw', hle, hf⟩ := storeA_spec h
  refine ⟨b', hk, hc, fun ρ w x hx hi hn => ?_⟩
  obtain ⟨l, hl, c, e, fr, h1, h2, h3, h4⟩ := hi.blk p.x b hb
  obtain ⟨rfl, hext⟩ := h3 hrw
  have hxl := VRs_length hx
  have hone := VRs_oneCell hc hx
  have hbound : l.o + p.pos + x.cells.toList.length ≤ c.size := by
    rw [← hxl]
    have hlt : p.pos + vs.length - 1 < (flat b.segs).length := by omega
    obtain ⟨z, hz, _⟩ := h4 (p.pos + vs.length - 1) _ (List.getElem?_eq_getElem hlt)
    have := (Array.getElem?_eq_some_iff.1 hz).1
    omega
  refine ⟨l, _, hl, ?_, step_store hi hb hl hrw hrw' h1 hx hbound hle hf⟩
  have hs := run_storeCells (P := P) x.cells.toList w l.b c e (l.o + p.pos) 0 h1 hone (by omega)
  simp only [storeVar, Sem.run_bind, run_sizeOf hn, Result.andThen_ok]
  rw [if_neg (by simp; have : x.cells.size = vs.length := by simpa using hxl.symm
                 exact this)]
  simpa [Loc.addr] using hs
end
end Go.Sx

/- What the executor's operations answer, the machine's operations answer: parts of values, places, slices. -/
namespace Go.Sx
open Go

section
variable {P : Program} {w : World} {ρ : Env} {R : Type} {r : R}

theorem mapM_places (g : Field → Nat) : ∀ (l : List Field), (∀ f ∈ l, (sizeOf f.type).run P w = .ok (g f) w) →
    (l.mapM fun (f : Field) => (do let n ← sizeOf f.type; pure (f.offset, n) : Sem (Nat × Nat))).run P w = .ok (l.map fun f => (f.offset, g f)) w
  | [], _ => by simp
  | f :: l, h => by
    have h1 := h f (by simp)
    have h2 := mapM_places g l (fun f hf => h f (by simp [hf]))
    simp only [List.mapM_cons, Sem.run_bind, h1, Result.andThen_ok, Sem.run_pure, h2, List.map_cons]

theorem buildA_sound {t : TypeId} {parts : List (Nat × AV)} {v : AV} (h : buildA P t parts = some v) {ps : Array (Nat × Value)} (hp : ps.toList.map (·.1) = parts.map (·.1))
    (hr : ∀ (i : Nat) (v : Nat × AV) (x : Nat × Value), parts[i]? = some v → ps.toList[i]? = some x → VR ρ v.2 x.2) : ∃ z, (Instr.build t ps).run P w = .ok z w ∧ VR ρ v z := by
  unfold buildA at h
  split at h
  · rename_i z fs hz hu
    cases hc : (!(fs.toList.all fun f => (szOf P f.type).isSome) || !(allCells z)) with
    | true => rw [hc] at h; simp at h
    | false =>
      rw [hc] at h
      simp only [cond_false] at h
      simp only [Bool.or_eq_false_iff, Bool.not_eq_false', List.all_eq_true] at hc
      obtain ⟨hsz, hcells⟩ := hc
      split at h
      · rename_i l hl
        simp at h; subst h
        obtain ⟨zv, hzv, hzr⟩ := zeroA_sound (w := w) (ρ := ρ) hz hcells
        have hsize : ∀ f ∈ fs.toList, (sizeOf f.type).run P w = .ok ((szOf P f.type).getD 0) w := by
          intro f hf
          have := hsz f hf
          cases hn : szOf P f.type with
          | none => simp [hn] at this
          | some n => exact run_sizeOf hn
        have hpl := mapM_places (fun f => (szOf P f.type).getD 0) fs.toList hsize
        have hpl2 : (fs.mapM fun (f : Field) => (do let n ← sizeOf f.type; pure (f.offset, n) : Sem (Nat × Nat))).run P w = .ok (fs.map fun (f : Field) => (f.offset, (szOf P f.type).getD 0)) w := by
          have e : fs.mapM (fun (f : Field) => (do let n ← sizeOf f.type; pure (f.offset, n) : Sem (Nat × Nat))) = List.toArray <$> (fs.toList.mapM fun (f : Field) => (do let n ← sizeOf f.type; pure (f.offset, n) : Sem (Nat × Nat))) := by
            rw [← List.mapM_toArray]
          rw [e, Sem.run_map, hpl]
          simp only [Result.andThen_ok]
          congr 1
          apply Array.ext'
          simp
        obtain ⟨b, hb, hbr⟩ := fillA_sound (place := fun i => match fs[i]? with
            | some f => match szOf P f.type with
              | some n => some (f.offset, n)
              | none => none
            | none => none) hl hzr (ps := ps.toList) hp hr
        refine ⟨.agg b, ?_, by simp only [VR]; exact ⟨b, rfl, hbr⟩⟩
        have hpe : (fun (i : Nat) => (fs.map fun (f : Field) => (f.offset, (szOf P f.type).getD 0))[i]?) = (fun i => match fs[i]? with
            | some f => match szOf P f.type with
              | some n => some (f.offset, n)
              | none => none
            | none => none) := by
          funext i
          simp only [Array.getElem?_map]
          cases hf : fs[i]? with
          | none => rfl
          | some f =>
            have := hsz f (by
              have := Array.mem_of_getElem? hf
              simpa using this)
            cases hn : szOf P f.type with
            | none => simp [hn] at this
            | some n => simp [hn]
        simp only [Instr.build, Sem.run_bind, hzv, Result.andThen_ok, run_underlying hu, hpl2]
        have hza : zv.cells.toList.toArray = zv.cells := by simp
        rw [hpe] 
        have hbb : Instr.fill (fun i => match fs[i]? with
            | some f => match szOf P f.type with
              | some n => some (f.offset, n)
              | none => none
            | none => none) zv.cells ps.toList = some b := by simpa using hb
        rw [hbb]
        simp
      · simp at h
  · rename_i z k e hz hu
    cases hc : !(allCells z) with
    | true => rw [hc] at h; simp at h
    | false =>
      rw [hc] at h
      simp only [cond_false] at h
      simp only [Bool.not_eq_false'] at hc
      split at h
      · rename_i n hn
        split at h
        · rename_i l hl
          simp at h; subst h
          obtain ⟨zv, hzv, hzr⟩ := zeroA_sound (w := w) (ρ := ρ) hz hc
          obtain ⟨b, hb, hbr⟩ := fillA_sound hl hzr (ps := ps.toList) hp hr
          refine ⟨.agg b, ?_, by simp only [VR]; exact ⟨b, rfl, hbr⟩⟩
          simp only [Instr.build, Sem.run_bind, hzv, Result.andThen_ok, run_underlying hu, run_sizeOf hn]
          have hbb : Instr.fill (fun i => some (i * n, n)) zv.cells ps.toList = some b := by simpa using hb
          rw [hbb]
          simp
        · simp at h
      · simp at h
  · simp at h

theorem fieldAddrA_sound {t : TypeId} {x v : AV} {f : Nat} {x' : Value} (h : fieldAddrA P t x f = some v) (hx : VR ρ x x') : ∃ z, (Instr.fieldAt t x' f).run P w = .ok z w ∧ VR ρ v z := by
  unfold fieldAddrA at h
  split at h
  · rename_i fs p hu
    simp only [VR] at hx
    obtain ⟨l, hl, rfl⟩ := hx
    split at h
    · rename_i fd hf
      split at h
      · rename_i n hn
        have hrun : (Instr.fieldAt t (.pointer (some (l.addr p.pos))) f).run P w = .ok (.pointer (some (l.addr (p.pos + fd.offset)))) w := by
          simp [Instr.fieldAt, run_underlying hu, hf, Instr.sureAddr, fieldPlace, run_sizeOf hn, addr_add]
        refine ⟨_, hrun, ?_⟩
        split at h <;> (rename_i hsz; simp at h; subst h; simp only [VR]; refine ⟨l, hl, ?_⟩; congr 3; simp [AP.pos, hsz]; omega)
      · simp at h
    · simp at h
  · simp at h

theorem fieldA_sound {t : TypeId} {x : AV} {f : Nat} {K : AV → Option R} (h : fieldA P t x f K = some r) : ∃ v, K v = some r ∧ ∀ (ρ : Env) (w : World) (x' : Value), VR ρ x x' → ∃ z, (Instr.field t x' f).run P w = .ok z w ∧ VR ρ v z := by
  unfold fieldA at h
  split at h
  · rename_i fs cs hu
    split at h
    · rename_i fd hf
      split at h
      · rename_i n hn
        unfold cutA at h
        cases hc : Nat.beq ((cs.drop fd.offset).take n).length n with
        | false => rw [hc] at h; simp at h
        | true =>
          rw [hc] at h
          simp only [cond_true] at h
          rw [beq_true] at hc
          obtain ⟨v, hv, hall⟩ := aggOr_part hn h hc
          refine ⟨v, hv, fun ρ w x' hx => ?_⟩
          simp only [VR] at hx
          obtain ⟨a, rfl, ha⟩ := hx
          obtain ⟨y, hy, hr⟩ := hall ρ w a fd.offset (VRs_take n (VRs_drop fd.offset ha))
          exact ⟨y, by simp [Instr.field, run_underlying hu, hf, asAgg, hy], hr⟩
      · simp at h
    · simp at h
  · simp at h

theorem den_lt_iff {k : IntKind} {v : BitVec k.bits} {n : Nat} (h : nonneg k v = true) (hl : v.toNat < n) : 0 ≤ den k v ∧ den k v < (n : Int) := by
  rw [nonneg_den h]; omega

theorem AP.pos0 {p : AP} (h : p.sz = 0) : p.pos = p.off + p.j := by simp [AP.pos, h]
theorem stepTo_pos {p : AP} {m a : Nat} (hps : p.sz = 0 ∨ p.sz = m) : (stepTo p m a).pos = p.pos + a * m := by
  unfold stepTo
  split
  · rename_i hz; rw [AP.pos0 hz, AP.pos0 (by simpa using hz)]; simp only; omega
  · rename_i s hz
    have : p.sz = m := by rcases hps with h0 | h0 <;> omega
    simp only [AP.pos, this, Nat.add_mul]; omega
theorem stepTo_x {p : AP} {m a : Nat} : (stepTo p m a).x = p.x := by unfold stepTo; split <;> rfl
theorem indexAddrA_sound {t : TypeId} {x ix : AV} {K : AV → Option R} (h : indexAddrA P t x ix K = some r) : ∃ v, K v = some r ∧ ∀ (ρ : Env) (w : World) (x' ix' : Value), VR ρ x x' → VR ρ ix ix' → ∃ z, (Instr.indexAt t x' ix').run P w = .ok z w ∧ VR ρ v z := by
  unfold indexAddrA at h
  split at h
  · rename_i k v
    split at h
    · rename_i e p es n hu
      split at h
      · rename_i m hm
        cases hc : (Nat.beq m es && (Nat.beq p.sz 0 || Nat.beq p.sz es)) with
        | false => rw [hc] at h; simp at h
        | true =>
          rw [hc] at h
          simp only [cond_true] at h
          simp only [Bool.and_eq_true, Bool.or_eq_true, beq_true] at hc
          obtain ⟨rfl, hps⟩ := hc
          cases hi : (nonneg k v && decide (v.toNat < n)) with
          | false => rw [hi] at h; simp at h
          | true =>
            rw [hi] at h
            simp only [cond_true] at h
            simp only [Bool.and_eq_true, decide_eq_true_eq] at hi
            have hd := den_lt_iff hi.1 hi.2
            refine ⟨_, h, fun ρ w x' ix' hx hix => ?_⟩
            simp only [VR] at hix; subst hix
            simp only [VR] at hx
            obtain ⟨l, cap, hl, hcap, h63, hext, rfl⟩ := hx
            refine ⟨.pointer (some (l.addr (p.pos + v.toNat * m))), ?_, ?_⟩
            · simp only [Instr.indexAt, Sem.run_bind, asIntOf, Sem.run_pure, Result.andThen_ok, run_underlying hu, run_sizeOf hm]
              rw [if_pos hd]
              simp only [Sem.run_bind, run_sizeOf hm, Result.andThen_ok, Sem.run_pure, addr_add, nonneg_den hi.1, Int.toNat_natCast]
            · simp only [VR, stepTo_pos hps, stepTo_x]
              exact ⟨l, hl, rfl⟩
      · simp at h
    · rename_i n e p hu
      split at h
      · rename_i m hm
        cases hi : (nonneg k v && decide (v.toNat < n)) with
        | false => rw [hi] at h; simp at h
        | true =>
          rw [hi] at h
          simp only [cond_true] at h
          simp only [Bool.and_eq_true, decide_eq_true_eq] at hi
          have hd := den_lt_iff hi.1 hi.2
          have hrun : ∀ (l : Loc) (w : World), (Instr.indexAt t (.pointer (some (l.addr p.pos))) (.int k (den k v))).run P w = .ok (.pointer (some (l.addr (p.pos + v.toNat * m)))) w := by
            intro l w
            simp only [Instr.indexAt, Sem.run_bind, asIntOf, Sem.run_pure, Result.andThen_ok, run_underlying hu, run_sizeOf hm, Instr.sureAddr]
            rw [if_pos hd]
            simp only [Sem.run_bind, run_sizeOf hm, Result.andThen_ok, Sem.run_pure, addr_add, nonneg_den hi.1, Int.toNat_natCast]
          split at h
          · rename_i hz
            split at h
            · rename_i c s hsh
              cases hc : Nat.beq (s.length + 1) m with
              | false => rw [hc] at h; simp at h
              | true =>
                rw [hc] at h
                simp only [cond_true] at h
                rw [beq_true] at hc
                refine ⟨_, h, fun ρ w x' ix' hx hix => ?_⟩
                simp only [VR] at hix; subst hix
                simp only [VR] at hx
                obtain ⟨l, hl, rfl⟩ := hx
                refine ⟨_, hrun l w, ?_⟩
                simp only [VR]
                refine ⟨l, hl, ?_⟩
                rw [AP.pos0 hz]
                have : (⟨p.x, p.off, v.toNat, (c :: s).length, p.j⟩ : AP).pos = p.off + p.j + v.toNat * m := by simp only [AP.pos, List.length_cons, hc]; omega
                rw [this]
            · refine ⟨_, h, fun ρ w x' ix' hx hix => ?_⟩
              simp only [VR] at hix; subst hix
              simp only [VR] at hx
              obtain ⟨l, hl, rfl⟩ := hx
              refine ⟨_, hrun l w, ?_⟩
              simp only [VR]
              refine ⟨l, hl, ?_⟩
              rw [AP.pos0 hz, AP.pos0 (by simpa using hz)]
              have : p.off + v.toNat * m + p.j = p.off + p.j + v.toNat * m := by omega
              simp only [this]
          · rename_i s hz
            refine ⟨_, h, fun ρ w x' ix' hx hix => ?_⟩
            simp only [VR] at hix; subst hix
            simp only [VR] at hx
            obtain ⟨l, hl, rfl⟩ := hx
            refine ⟨_, hrun l w, ?_⟩
            simp only [VR]
            refine ⟨l, hl, ?_⟩
            simp only [AP.pos]; congr 3; omega
      · simp at h
    · simp at h
  · simp at h

theorem indexA_sound {t : TypeId} {x ix : AV} {K : AV → Option R} (h : indexA P t x ix K = some r) : ∃ v, K v = some r ∧ ∀ (ρ : Env) (w : World) (x' ix' : Value), VR ρ x x' → VR ρ ix ix' → ∃ z, (Instr.index t x' ix').run P w = .ok z w ∧ VR ρ v z := by
  unfold indexA at h
  split at h
  · rename_i k v n e cs hu
    split at h
    · rename_i m hm
      cases hi : (nonneg k v && decide (v.toNat < n)) with
      | false => rw [hi] at h; simp at h
      | true =>
        rw [hi] at h
        simp only [cond_true] at h
        simp only [Bool.and_eq_true, decide_eq_true_eq] at hi
        have hd := den_lt_iff hi.1 hi.2
        unfold cutA at h
        cases hc : Nat.beq ((cs.drop (v.toNat * m)).take m).length m with
        | false => rw [hc] at h; simp at h
        | true =>
          rw [hc] at h
          simp only [cond_true] at h
          rw [beq_true] at hc
          obtain ⟨u, hv, hall⟩ := aggOr_part hm h hc
          refine ⟨u, hv, fun ρ w x' ix' hx hix => ?_⟩
          simp only [VR] at hix hx; subst hix
          obtain ⟨a, rfl, ha⟩ := hx
          obtain ⟨y, hy, hr⟩ := hall ρ w a (v.toNat * m) (VRs_take m (VRs_drop (v.toNat * m) ha))
          refine ⟨y, ?_, hr⟩
          simp only [Instr.index, Sem.run_bind, asIntOf, Sem.run_pure, Result.andThen_ok, run_underlying hu]
          rw [if_pos hd]
          simp only [Sem.run_bind, run_sizeOf hm, Result.andThen_ok, nonneg_den hi.1, Int.toNat_natCast, hy]
    · simp at h
  · rename_i k v b hu
    cases hi : (nonneg k v && decide (v.toNat < b.size)) with
    | false => rw [hi] at h; simp at h
    | true =>
      rw [hi] at h
      simp only [cond_true] at h
      simp only [Bool.and_eq_true, decide_eq_true_eq] at hi
      have hd := den_lt_iff hi.1 hi.2
      refine ⟨_, h, fun ρ w x' ix' hx hix => ?_⟩
      simp only [VR] at hix hx; subst hix; subst hx
      refine ⟨.int .u8 (den .u8 (byteAt b v.toNat)), ?_, by simp only [VR]⟩
      simp only [Instr.index, Sem.run_bind, asIntOf, Sem.run_pure, Result.andThen_ok, run_underlying hu]
      rw [if_pos hd.1, nonneg_den hi.1, Int.toNat_natCast, getElem?_pos b v.toNat hi.2]
      have hb : (byteAt b v.toNat).toNat = (b[v.toNat]'hi.2).toNat := by
        unfold byteAt
        have hl : v.toNat < b.data.toList.length := hi.2
        rw [List.getD_eq_getElem?_getD, List.getElem?_eq_getElem hl, Option.getD_some, BitVec.toNat_ofNat, Nat.mod_eq_of_lt (UInt8.toNat_lt _)]
        rfl
      show Result.ok (Value.int .u8 (((b[v.toNat]'hi.2).toNat : Nat) : Int)) w = Result.ok (Value.int .u8 (((byteAt b v.toNat).toNat : Nat) : Int)) w
      rw [hb]
  · simp at h

/-- Two operands that may be there. -/
def VRo (ρ : Env) (v : Option AV) (v' : Option Value) : Prop := (v = none ∧ v' = none) ∨ ∃ u u', v = some u ∧ v' = some u' ∧ VR ρ u u'
theorem boundA_sound {v : Option AV} {d : Nat} {K : Nat → Option R} (h : boundA v d K = some r) :
    ∃ n, K n = some r ∧ ∀ (ρ : Env) (v' : Option Value), VRo ρ v v' → ((v' = none ∧ n = d) ∨ ∃ k m, v' = some (.int k m) ∧ m = (n : Int)) := by
  unfold boundA at h
  cases v with
  | none =>
    refine ⟨d, h, fun ρ v' hv => ?_⟩
    rcases hv with ⟨_, rfl⟩ | ⟨_, _, h0, _⟩
    · exact .inl ⟨rfl, rfl⟩
    · simp at h0
  | some u =>
    cases u with
    | int k n =>
      simp only at h
      cases hn : nonneg k n with
      | false => simp [hn] at h
      | true =>
        simp only [hn, cond_true] at h
        refine ⟨_, h, fun ρ v' hv => ?_⟩
        rcases hv with ⟨h0, _⟩ | ⟨u, u', h0, rfl, hu⟩
        · simp at h0
        · simp at h0; subst h0
          simp only [VR] at hu; subst hu
          exact .inr ⟨k, _, rfl, nonneg_den hn⟩
    | _ => simp at h

theorem sliceA_sound {t : TypeId} {x : AV} {lo hi : Option AV} {K : AV → Option R} (h : sliceA P t x lo hi K = some r) :
    ∃ v, K v = some r ∧ ∀ (ρ : Env) (w : World) (x' : Value) (lo' hi' : Option Value), VR ρ x x' → VRo ρ lo lo' → VRo ρ hi hi' → ∃ z, (Instr.sliceAt t x' lo' hi' none).run P w = .ok z w ∧ VR ρ v z := by
  unfold sliceA at h
  split at h
  · rename_i e p es n hu
    split at h
    · rename_i m hm
      cases hc : (Nat.beq m es && (Nat.beq p.sz 0 || Nat.beq p.sz es)) with
      | false => rw [hc] at h; simp at h
      | true =>
        rw [hc] at h
        simp only [cond_true] at h
        simp only [Bool.and_eq_true, Bool.or_eq_true, beq_true] at hc
        obtain ⟨rfl, hps⟩ := hc
        obtain ⟨a, h, ha⟩ := boundA_sound h
        obtain ⟨b, h, hb⟩ := boundA_sound h
        cases hi : (decide (b ≤ n) && (decide (a < b) || Nat.beq a 0)) with
        | false => rw [hi] at h; simp at h
        | true =>
          rw [hi] at h
          simp only [cond_true] at h
          simp only [Bool.and_eq_true, Bool.or_eq_true, decide_eq_true_eq, beq_true] at hi
          obtain ⟨hbn, hab⟩ := hi
          have hpos : (stepTo p m a).pos = p.pos + a * m := stepTo_pos hps
          have hxx : (stepTo p m a).x = p.x := stepTo_x
          refine ⟨_, h, fun ρ w x' lo' hi' hx hlo hhi => ?_⟩
          have ha := ha ρ lo' hlo
          have hb := hb ρ hi' hhi
          simp only [VR] at hx
          obtain ⟨l, cap, hl, hcap, h63, hext, rfl⟩ := hx
          refine ⟨.slice (some (l.addr (p.pos + a * m))) (b - a) (cap - a), ?_, ?_⟩
          · have hB : (match hi' with
                | some v => Instr.sliceBound v cap .sliceAcap
                | none => pure n).run P w = .ok b w := by
              rcases hb with ⟨rfl, rfl⟩ | ⟨k, q, rfl, rfl⟩
              · rfl
              · simp only [Instr.sliceBound, asIntOf, pure_bind]
                rw [if_pos (by omega)]
                simp
            have hA : (match lo' with
                | some v => Instr.sliceBound v b .sliceB
                | none => pure 0).run P w = .ok a w := by
              rcases ha with ⟨rfl, rfl⟩ | ⟨k, q, rfl, rfl⟩
              · rfl
              · simp only [Instr.sliceBound, asIntOf, pure_bind]
                rw [if_pos (by omega)]
                simp
            have hbounds : (Instr.sliceBounds true n cap lo' hi' none).run P w = .ok (a, b, cap) w := by
              unfold Instr.sliceBounds
              cases hi' <;> cases lo' <;> simp_all
            simp only [Instr.sliceAt, Instr.slice, Sem.run_bind, run_underlying hu, Result.andThen_ok, hbounds, run_sizeOf hm, Sem.run_pure, Option.map_some, addr_add]
            congr 2
            clear hA hB hbounds ha hb
            split
            · rename_i hca
              have : a = 0 := by omega
              simp [this]
            · rfl
          · clear ha hb
            simp only [VR]
            refine ⟨l, cap - a, by rw [hxx]; exact hl, by omega, by omega, ?_, by rw [hpos]⟩
            intro hrw
            have := hext hrw
            rw [hpos, Nat.sub_mul]
            have : a * m ≤ cap * m := Nat.mul_le_mul_right _ (by omega)
            omega
    · simp at h
  · rename_i e hu
    split at h
    · rename_i m hm
      obtain ⟨a, h1, ha⟩ := boundA_sound h
      obtain ⟨b, h2, hb⟩ := boundA_sound h1
      cases hq : (Nat.beq b 0 && Nat.beq a 0) with
      | false => rw [hq] at h2; simp at h2
      | true =>
        rw [hq] at h2
        simp only [cond_true] at h2
        simp only [Bool.and_eq_true, beq_true] at hq
        obtain ⟨rfl, rfl⟩ := hq
        refine ⟨_, h2, fun ρ w x' lo' hi' hx hlo hhi => ?_⟩
        have ha := ha ρ lo' hlo
        have hb := hb ρ hi' hhi
        simp only [VR] at hx; subst hx
        refine ⟨.slice none 0 0, ?_, by simp only [VR]⟩
        have hB : (match hi' with
              | some v => Instr.sliceBound v 0 .sliceAcap
              | none => pure 0).run P w = .ok 0 w := by
          rcases hb with ⟨rfl, _⟩ | ⟨k, q, rfl, rfl⟩
          · rfl
          · simp [Instr.sliceBound, asIntOf]
        have hA : (match lo' with
              | some v => Instr.sliceBound v 0 .sliceB
              | none => pure 0).run P w = .ok 0 w := by
          rcases ha with ⟨rfl, _⟩ | ⟨k, q, rfl, rfl⟩
          · rfl
          · simp [Instr.sliceBound, asIntOf]
        have hbounds : (Instr.sliceBounds true 0 0 lo' hi' none).run P w = .ok (0, 0, 0) w := by
          unfold Instr.sliceBounds
          cases hi' <;> cases lo' <;> simp_all
        simp only [Instr.sliceAt, Instr.slice, Sem.run_bind, run_underlying hu, Result.andThen_ok, hbounds, Sem.run_pure, run_sizeOf hm]
        simp
    · simp at h
  · simp at h
end
end Go.Sx

/- What the executor's operations answer, the machine's operations answer: slices that are made, and appended to. -/
namespace Go.Sx
open Go

section
variable {P : Program} {w : World} {ρ : Env} {R : Type} {r : R}

theorem flatten_rep_length {α : Type} (l : List α) : ∀ n, (List.replicate n l).flatten.length = n * l.length
  | 0 => by simp
  | n + 1 => by simp [List.replicate_succ, flatten_rep_length l n, Nat.add_mul, Nat.add_comm]
theorem flatten_rep_get {α : Type} (l : List α) : ∀ (n i : Nat), i < n * l.length → (List.replicate n l).flatten[i]? = l[i % l.length]?
  | 0, i, h => by omega
  | n + 1, i, h => by
    simp only [List.replicate_succ, List.flatten_cons]
    rcases Nat.lt_or_ge i l.length with hi | hi
    · rw [List.getElem?_append_left hi, Nat.mod_eq_of_lt hi]
    · rw [List.getElem?_append_right hi, flatten_rep_get l n _ (by rw [Nat.add_mul] at h; omega), Nat.mod_eq_sub_mod hi]
theorem range_zero (z : Array Value) (n : Nat) : ((Array.range (n * z.size)).map (fun i => z[i % z.size]!)).toList = (List.replicate n z.toList).flatten := by
  apply List.ext_getElem?
  intro i
  rcases Nat.lt_or_ge i (n * z.size) with h | h
  · have hz : 0 < z.size := by
      rcases Nat.eq_zero_or_pos z.size with h0 | h0
      · rw [h0] at h; omega
      · exact h0
    rw [flatten_rep_get _ _ _ (by simpa using h)]
    simp [h, Nat.mod_lt _ hz]
  · rw [List.getElem?_eq_none (by simpa using h), List.getElem?_eq_none (by rw [flatten_rep_length]; simpa using h)]

theorem run_typeInfo_bytes {t : TypeId} {i : TypeInfo} (h : P.info? t = some i) : (typeInfo t).run P w = .ok i w := run_typeInfo h
theorem szOf_info {t : TypeId} {n : Nat} {i : TypeInfo} (h : szOf P t = some n) (hi : P.info? t = some i) : i.size = n := by
  unfold szOf at h; rw [hi] at h; simpa using h

theorem arrFlat_replicate (sh : List CK) (z : List AV) (hz : fitsRow sh z = true) : ∀ n, arrFlat sh n (List.replicate n z) = (List.replicate n z).flatten
  | 0 => by simp [arrFlat]
  | n + 1 => by simp [List.replicate_succ, arrFlat, arrFlat_replicate sh z hz n, rowCells_fits hz]

theorem wrap_small {k : IntKind} {l : BitVec k.bits} (h : nonneg k l = true) (hl : l.toNat ≤ 2 ^ 47) : IntKind.i64.wrap (den k l) = (l.toNat : Int) := by
  rw [nonneg_den h]
  unfold IntKind.wrap
  have e : (2 : Int) ^ IntKind.i64.bits = 18446744073709551616 := by decide
  have e2 : (2 : Int) ^ (IntKind.i64.bits - 1) = 9223372036854775808 := by decide
  simp only [e, e2]
  have : (l.toNat : Int) % 18446744073709551616 = l.toNat := by omega
  rw [this]
  rw [if_neg]
  simp only [Bool.and_eq_true, decide_eq_true_eq]
  intro ⟨_, h2⟩
  omega

theorem makeSliceA_sound {t : TypeId} {len cap : AV} {N : Nat} {H : Heap} {K : AV → Eff → Nat → Option R} (h : makeSliceA P t len cap N K = some r) :
    ∃ v e N', K v e N' = some r ∧ N ≤ N' ∧ ∀ ρ w len' cap', VR ρ len len' → VR ρ cap cap' → Inv ρ H w → Fresh ρ N N' →
      ∃ z w', (Instr.makeSlice t len' cap').run P w = .ok z w' ∧ Post ρ H N w e N' v z w' := by
  unfold makeSliceA at h
  split at h
  · rename_i e k l k' c hu
    split at h
    · rename_i m z i s0 s hm hz hi hsh
      cases hc : (Nat.beq (s.length + 1) (m + 1) && fitsRow (s0 :: s) z && Nat.ble 1 i.bytes && allCells z) with
      | false => rw [hc] at h; simp at h
      | true =>
        rw [hc] at h
        simp only [cond_true] at h
        simp only [Bool.and_eq_true, beq_true, ble_true] at hc
        obtain ⟨⟨⟨hc1, hfit⟩, hb1⟩, hcells⟩ := hc
        cases hd : (nonneg k l && nonneg k' c && decide (l.toNat = c.toNat) && decide (i.bytes * c.toNat ≤ 2 ^ 47)) with
        | false => rw [hd] at h; simp at h
        | true =>
          rw [hd] at h
          simp only [cond_true] at h
          simp only [Bool.and_eq_true, decide_eq_true_eq] at hd
          obtain ⟨⟨⟨hl, hcn⟩, hlc⟩, hbytes⟩ := hd
          refine ⟨_, _, _, h, by omega, fun ρ w len' cap' hlen hcap hinv hf => ?_⟩
          simp only [VR] at hlen hcap; subst hlen; subst hcap
          have hc47 : c.toNat ≤ 2 ^ 47 := Nat.le_trans (Nat.le_mul_of_pos_left _ hb1) hbytes
          obtain ⟨zv, hzv, hzr⟩ := zeroA_sound (w := w) (ρ := ρ) hz hcells
          have hzl : z.length = m + 1 := by have := fitsRow_length hfit; simp at this; omega
          have hzs : zv.cells.size = m + 1 := by have := VRs_length hzr; simp at this; omega
          refine ⟨.slice (some ⟨w.heap.size, 0, none⟩) l.toNat c.toNat, w.alloc (.cells ((Array.range (c.toNat * zv.cells.size)).map (fun i => zv.cells[i % zv.cells.size]!)) e), ?_, _, step_new (ys := ((Array.range (c.toNat * zv.cells.size)).map (fun i => zv.cells[i % zv.cells.size]!)).toList) hinv (hf N (Nat.le_refl _) (by omega)) ?_ (fun j y hj => by rw [← Array.getElem?_toList]; exact hj), ?_⟩
          · simp only [Instr.makeSlice, Sem.run_bind, run_underlying hu, Result.andThen_ok, asInt, asIntOf, pure_bind, Sem.run_pure, run_typeInfo hi, wrap_small hcn hc47, wrap_small hl (by omega)]
            rw [if_neg (by
              simp only [Bool.or_eq_true, decide_eq_true_eq, not_or]
              refine ⟨⟨⟨by omega, ?_⟩, by omega⟩, by omega⟩
              have : ((i.bytes * c.toNat : Nat) : Int) ≤ 2 ^ 47 := by exact_mod_cast hbytes
              push_cast at this
              omega)]
            simp only [run_askRoom, Result.andThen_ok, run_sizeOf hm, Int.toNat_natCast, Sem.run_bind]
            by_cases h0 : c.toNat * (m + 1) = 0
            · rw [if_pos h0]
              simp only [Sem.run_pure, Result.andThen_ok, newRow, Sem.run_bind, run_newObj, hzs, h0]
              rw [show (Array.range 0) = (#[] : Array Nat) from rfl]
              simp
            · rw [if_neg h0]
              simp only [Sem.run_bind, hzv, Result.andThen_ok, Sem.run_pure, newRow, run_newObj, hzs, World.alloc_eq]
          · simp only [flat, List.append_nil, arrFlat_replicate _ z hfit, range_zero]
            exact VRs_flatten hzr _
          · simp only [VR]
            refine ⟨_, c.toNat, Env.add_self, by omega, by omega, fun _ => ?_, by simp [Loc.addr, AP.pos]⟩
            simp [AP.pos, hzs]
    · simp at h
  · simp at h

theorem fillA_length {place : Nat → Option (Nat × Nat)} : ∀ {parts : List (Nat × AV)} {cs out : List AV}, fillA place cs parts = some out → out.length = cs.length
  | [], cs, out, h => by simp [fillA] at h; subst h; rfl
  | (i, v) :: parts, cs, out, h => by
    simp only [fillA] at h
    split at h
    · simp at h
    · rename_i off size hpl
      cases hc : (Nat.beq (cellsOf v).length size && Nat.ble (off + (cellsOf v).length) cs.length && allCells (cellsOf v)) with
      | false => rw [hc] at h; simp at h
      | true =>
        rw [hc] at h
        simp only [cond_true] at h
        simp only [Bool.and_eq_true, beq_true, ble_true] at hc
        rw [fillA_length h]
        simp [splice]; omega
theorem rowsA_flat {e : TypeId} {n : Nat} {cs : List AV} {s : List Seg} {sz : Nat} (h : rowsA P e n cs = some (s, sz)) : flat s = cs := by
  unfold rowsA at h
  split at h
  · rename_i c s' m hsh hm
    cases hc : Nat.beq m (s'.length + 1) with
    | false => rw [hc] at h; simp at h
    | true =>
      rw [hc] at h
      simp only [cond_true] at h
      split at h
      · rename_i t ht
        simp at h; obtain ⟨rfl, rfl⟩ := h
        exact mkSegs_flat ht
      · simp at h
  · split at h
    · rename_i t ht
      simp at h; obtain ⟨rfl, rfl⟩ := h
      exact mkSegs_flat ht
    · simp at h
  · simp at h

theorem buildSliceA_sound {t : TypeId} {n : Nat} {parts : List (Nat × AV)} {N : Nat} {H : Heap} {K : AV → Eff → Nat → Option R} (h : buildSliceA P t n parts N K = some r) :
    ∃ v e N', K v e N' = some r ∧ N ≤ N' ∧ ∀ ρ w (ps : Array (Nat × Value)), ps.toList.map (·.1) = parts.map (·.1) → (∀ (i : Nat) (v : Nat × AV) (x : Nat × Value), parts[i]? = some v → ps.toList[i]? = some x → VR ρ v.2 x.2) → Inv ρ H w → Fresh ρ N N' →
      ∃ z w', (Instr.buildSlice t n ps).run P w = .ok z w' ∧ Post ρ H N w e N' v z w' := by
  unfold buildSliceA at h
  split at h
  · rename_i e hu
    split at h
    · rename_i m z hm hz
      cases hc : (Nat.ble (n * (m + 1)) (2 ^ 24) && Nat.beq z.length (m + 1) && allCells z && Nat.ble 1 n) with
      | false => rw [hc] at h; simp at h
      | true =>
        rw [hc] at h
        simp only [cond_true] at h
        simp only [Bool.and_eq_true, beq_true, ble_true] at hc
        obtain ⟨⟨⟨hc1, hzl⟩, hcells⟩, hn⟩ := hc
        split at h
        · rename_i cs hcs
          split at h
          · rename_i s sz hrows
            refine ⟨_, _, _, h, by omega, fun ρ w ps hp hr hinv hf => ?_⟩
            obtain ⟨zv, hzv, hzr⟩ := zeroA_sound (w := w) (ρ := ρ) hz hcells
            have hzs : zv.cells.size = m + 1 := by have := VRs_length hzr; simp at this; omega
            have hv0 : VRs ρ (rep n z) ((Array.range (n * (m + 1))).map (fun i => zv.cells[i % zv.cells.size]!)).toList := by
              rw [← hzs, range_zero]; exact VRs_flatten hzr n
            obtain ⟨b, hb, hbr⟩ := fillA_sound hcs hv0 (ps := ps.toList) hp hr
            have hlen : cs.length = n * (m + 1) := by rw [fillA_length hcs]; simp [rep, flatten_rep_length, hzl]
            have hbs : b.size = n * (m + 1) := by have := VRs_length hbr; simp at this; omega
            have hn63 : n < 2 ^ 63 := by
              have : n ≤ n * (m + 1) := Nat.le_mul_of_pos_right _ (by omega)
              omega
            have hpos : 1 ≤ n * (m + 1) := Nat.mul_pos hn (by omega)
            refine ⟨.slice (some ⟨w.heap.size, 0, none⟩) n n, w.alloc (.cells b e), ?_, _, step_new (ys := b.toList) hinv (hf N (Nat.le_refl _) (by omega)) (by rw [rowsA_flat hrows]; exact hbr) (fun j y hj => by rw [← Array.getElem?_toList]; exact hj), ?_⟩
            · simp only [Instr.buildSlice, Sem.run_bind, run_underlying hu, Result.andThen_ok, run_sizeOf hm, Nat.succ_eq_add_one]
              rw [if_neg (by omega)]
              rw [if_neg (by omega)]
              simp only [Sem.run_bind, hzv, Result.andThen_ok, Sem.run_pure]
              have hbb : Instr.fill (fun i => some (i * (m + 1), m + 1)) ((Array.range (n * (m + 1))).map (fun i => zv.cells[i % zv.cells.size]!)) ps.toList = some b := hb
              rw [hbb]
              simp only [newRow, Sem.run_bind, run_newObj, Result.andThen_ok, Sem.run_pure, World.alloc_eq]
            · simp only [VR]
              refine ⟨_, n, Env.add_self, by omega, hn63, fun _ => ?_, by simp [Loc.addr, AP.pos]⟩
              simp [AP.pos, hbs]
          · simp at h
        · simp at h
    · simp at h
  · simp at h

/-! append -/
theorem arrFlat_append (sh : List CK) : ∀ (a b : List (List AV)) (m : Nat), arrFlat sh (a.length + m) (a ++ b) = arrFlat sh a.length a ++ arrFlat sh m b
  | [], b, m => by simp [arrFlat]
  | r :: a, b, m => by
    simp only [List.length_cons, List.cons_append]
    rw [show a.length + 1 + m = (a.length + m) + 1 by omega]
    simp only [arrFlat, arrFlat_append sh a b m, List.append_assoc]
theorem findArr_rows {s : List Seg} {off : Nat} {sh : List CK} {m : Nat} {d : List (List AV)} (hf : findArr s off = some (sh, m, d)) (hsh : 0 < sh.length) {i n : Nat} (hin : i + n ≤ m) (hd : d.length = m) :
    ((flat s).drop (off + i * sh.length)).take (n * sh.length) = arrFlat sh n ((d.drop i).take n) ∧ ((d.drop i).take n).length = n := by
  refine ⟨?_, by simp; omega⟩
  apply List.ext_getElem?
  intro k
  rcases Nat.lt_or_ge k (n * sh.length) with hk | hk
  · rw [List.getElem?_take_of_lt hk, List.getElem?_drop]
    have hq : k / sh.length < n := (Nat.div_lt_iff_lt_mul hsh).2 hk
    have ht : k % sh.length < sh.length := Nat.mod_lt _ hsh
    have hkk : k = (k / sh.length) * sh.length + k % sh.length := by rw [Nat.mul_comm]; exact (Nat.div_add_mod k sh.length).symm
    have h1 := findArr_flat hf (i + k / sh.length) (k % sh.length) (by omega) ht
    have h2 := arrFlat_get sh n ((d.drop i).take n) (k / sh.length) (k % sh.length) hq ht
    rw [← hkk] at h2
    rw [h2]
    have e : off + i * sh.length + k = off + (i + k / sh.length) * sh.length + k % sh.length := by rw [Nat.add_mul]; omega
    rw [e, h1]
    congr 2
    simp only [List.getD_eq_getElem?_getD]
    rw [List.getElem?_take_of_lt hq, List.getElem?_drop]
  · rw [List.getElem?_eq_none (by simp; omega), List.getElem?_eq_none (by rw [arrFlat_length]; exact hk)]

theorem coerce_isCell (c : CK) (v : AV) : isCell (coerce c v) = true := by cases c <;> rfl
theorem allCells_append : ∀ {l m : List AV}, allCells l = true → allCells m = true → allCells (l ++ m) = true
  | [], _, _, h => h
  | v :: l, m, h, hm => by
    simp only [allCells, Bool.and_eq_true] at h
    simp [allCells, h.1, allCells_append h.2 hm]
theorem rowCells_allCells : ∀ (sh : List CK) (r : List AV), allCells (rowCells sh r) = true
  | [], _ => rfl
  | c :: s, [] => by simp [rowCells, allCells, coerce_isCell, rowCells_allCells s []]
  | c :: s, v :: r => by simp [rowCells, allCells, coerce_isCell, rowCells_allCells s r]
theorem arrFlat_allCells (sh : List CK) : ∀ (n : Nat) (d : List (List AV)), allCells (arrFlat sh n d) = true
  | 0, _ => rfl
  | n + 1, [] => allCells_append (rowCells_allCells sh []) (arrFlat_allCells sh n [])
  | n + 1, r :: d => allCells_append (rowCells_allCells sh r) (arrFlat_allCells sh n d)
theorem cell_same {w w' : World} (h : w'.heap = w.heap) (a : Addr) : w'.cell? a = w.cell? a := by simp [World.cell?, h]

/-- Rows of a slice, as the machine loads them. -/
theorem rowsOf_sound {H : Heap} {sh : List CK} {v : AV} {a : List (List AV)} (h : rowsOf H sh v = some a) (hsh : 0 < sh.length) {v' : Value} (hv : VR ρ v v') (hi : Inv ρ H w) :
    (Builtin.lenOf v').run P w = .ok a.length w ∧ ∃ ys, (∀ w' : World, w'.heap = w.heap → (Builtin.firstCells sh.length a.length v').run P w' = .ok ys w') ∧ VRs ρ (arrFlat sh a.length a) ys.toList ∧
      ∀ p es n, v = .slice p es n → a.length = n ∧ ∀ l, ρ p.x = some l → ∀ (j : Nat) (y : Value), ys.toList[j]? = some y → w.cell? (l.addr (p.pos + j)) = some y := by
  unfold rowsOf at h
  split at h
  · simp at h; subst h
    simp only [VR] at hv; subst hv
    exact ⟨rfl, #[], fun _ _ => rfl, by simp [arrFlat], by simp⟩
  · rename_i p es n
    split at h
    · rename_i b hb
      split at h
      · rename_i sh' m d hf
        cases hc : (decide (sh' = sh) && Nat.beq p.sz sh.length && Nat.beq p.j 0 && decide (p.i + n ≤ m) && decide (d.length = m)) with
        | false => rw [hc] at h; simp at h
        | true =>
          rw [hc] at h
          simp only [cond_true, Option.some.injEq] at h
          simp only [Bool.and_eq_true, beq_true, decide_eq_true_eq] at hc
          obtain ⟨⟨⟨⟨rfl, hsz⟩, hj⟩, him⟩, hd⟩ := hc
          obtain ⟨h1, h2⟩ := findArr_rows hf hsh him hd
          rw [h] at h1 h2
          have hpos : p.pos = p.off + p.i * sh'.length := by simp [AP.pos, hsz, hj]
          rw [← hpos] at h1
          simp only [VR] at hv
          obtain ⟨l, cap, hl, hcap, h63, hext, rfl⟩ := hv
          obtain ⟨l', ys, hl', hys, hcell⟩ := hi.cells hb h1 (by rw [arrFlat_length])
          rw [hl] at hl'; simp at hl'; subst hl'
          rw [h2]
          have hlen := VRs_length hys
          rw [arrFlat_length] at hlen
          refine ⟨rfl, ys.toArray, fun w' hw => ?_, by simpa using hys, ?_⟩
          · have := run_loadCells_at (P := P) (w := w') l p.pos ys (fun j y hy => by rw [cell_same hw]; exact hcell j y hy)
            rw [← hlen] at this
            exact this
          · intro p' es' n' he
            simp at he
            obtain ⟨rfl, rfl, rfl⟩ := he
            refine ⟨rfl, fun l' hl' j y hy => ?_⟩
            rw [hl] at hl'; simp at hl'; subst hl'
            exact hcell j y (by simpa using hy)
      · simp at h
    · simp at h
  · simp at h

theorem rowsK_some {R : Type} {H : Heap} {sh : List CK} {v : AV} {K : Nat → List (List AV) → Option R} {r : R} (h : rowsK H sh v K = some r) : ∃ a, rowsOf H sh v = some a ∧ K a.length a = some r := by
  unfold rowsK at h
  unfold rowsOf
  split at h
  · exact ⟨[], rfl, h⟩
  · rename_i p es n
    split at h
    · rename_i b hb
      split at h
      · rename_i sh' m d hf
        try rw [hf]
        try simp only
        cases hc : (decide (sh' = sh) && Nat.beq p.sz sh.length && Nat.beq p.j 0) with
        | false => rw [hc] at h; simp at h
        | true =>
          rw [hc] at h
          simp only [cond_true] at h
          cases hd : (decide (p.i + n ≤ m) && decide (d.length = m)) with
          | false => rw [hd] at h; simp at h
          | true =>
            rw [hd] at h
            simp only [cond_true] at h
            simp only [Bool.and_eq_true, decide_eq_true_eq] at hd
            rw [Bool.true_and, decide_eq_true hd.1, decide_eq_true hd.2]
            refine ⟨_, rfl, ?_⟩
            have : ((d.drop p.i).take n).length = n := by rw [List.length_take, List.length_drop]; omega
            rw [this]; exact h
      · simp at h
    · simp at h
  · simp at h
theorem growBy_le (need : Nat) : ∀ (k c : Nat), Builtin.growBy need k c ≤ max c (need + (need + 768) / 4)
  | 0, c => by simp [Builtin.growBy]; omega
  | k + 1, c => by
    unfold Builtin.growBy
    split
    · omega
    · have := growBy_le need k (c + (c + 768) / 4)
      omega
theorem nextcap_le {need cap bytes : Nat} (hc : cap < need) (hb : bytes ≤ 2 ^ 20) (hn : need * bytes ≤ 2 ^ 47 + 2 ^ 20) : Builtin.nextslicecap need cap * bytes ≤ 2 ^ 48 := by
  unfold Builtin.nextslicecap
  split
  · omega
  · split
    · rename_i h1 h2
      have : 2 * cap * bytes ≤ 512 * 2 ^ 20 := Nat.mul_le_mul (by omega) hb
      omega
    · have h := growBy_le need 4 cap
      have h' : Builtin.growBy need 4 cap ≤ need + (need + 768) / 4 := by omega
      have h2 := Nat.mul_le_mul_right bytes h'
      have h3 : (need + (need + 768) / 4) * bytes ≤ need * bytes + (need * bytes + 768 * bytes) / 4 := by
        rw [Nat.add_mul]
        have : (need + 768) / 4 * bytes ≤ (need * bytes + 768 * bytes) / 4 := by
          rw [← Nat.add_mul, Nat.le_div_iff_mul_le (by decide)]
          calc (need + 768) / 4 * bytes * 4 = ((need + 768) / 4 * 4) * bytes := by rw [Nat.mul_right_comm]
            _ ≤ (need + 768) * bytes := Nat.mul_le_mul_right _ (Nat.div_mul_le_self _ _)
        omega
      have : 768 * bytes ≤ 768 * 2 ^ 20 := Nat.mul_le_mul_left _ hb
      omega

/-- In place: the block goes on under another name. -/
theorem step_move {H : Heap} {N x : Nat} {b : Blk} {l : Loc} {c c' : Array Value} {e : TypeId} {s : List Seg} {ys : List Value} {o : Nat} (hi : Inv ρ H w) (hN : ρ N = none) (hb : H.find x = some b) (hl : ρ x = some l) (hrw : l.rw = true)
    (hc : w.heap[l.b]? = some (.cells c e (0, 0))) (hcs : c'.size = c.size) (hv : VRs ρ (flat s) ys) (hys : ∀ (j : Nat) (y : Value), ys[j]? = some y → c'[o + j]? = some y) :
    Step ρ H N w (ρ.add N ⟨l.b, o, c.size, true⟩) ((H.del x).put N ⟨true, s⟩) (N + 1) { w with heap := w.heap.setIfInBounds l.b (.cells c' e (0, 0)) } where
  ext y hy := by simp [Env.add]; intro h; omega
  os := rfl
  tape := rfl
  output := rfl
  size := by simp
  block k hk hn := by
    rw [heap_setIf w (lt_size hc), if_neg]
    rintro rfl
    exact hn ⟨x, b, l, hb, hl, hrw, rfl⟩
  inv := by
    have hle := Env.add_le (l := ⟨l.b, o, c.size, true⟩) hN
    have hNf := hi.none hN
    constructor
    · intro y by' hy
      rw [find_put] at hy
      split at hy
      · rename_i hye; subst hye
        simp at hy; subst hy
        refine ⟨_, Env.add_self, c', e, (0, 0), by rw [heap_setIf w (lt_size hc), if_pos rfl], rfl, fun _ => ⟨rfl, hcs.symm⟩, fun k v hk => ?_⟩
        obtain ⟨z, hz, hr⟩ := VRs_get hv k v hk
        exact ⟨z, hys k z hz, VR_mono hle _ _ hr⟩
      · rw [find_del] at hy
        split at hy
        · simp at hy
        · rename_i hyx
          obtain ⟨ly, hly, hby⟩ := hi.blk y by' hy
          refine ⟨ly, hle _ _ hly, hby.mono hle ?_⟩
          rw [heap_setIf w (lt_size hc), if_neg]
          intro hh
          exact hyx (hi.inj x y b by' l ly hb hy hl hly hrw hh.symm).symm
    · intro y z by' bz ly lz hy hz hly hlz hr hbb
      rw [find_put] at hy hz
      have old : ∀ q bq lq, H.find q = some bq → q ≠ x → (ρ.add N ⟨l.b, o, c.size, true⟩) q = some lq → lq.b ≠ l.b := by
        intro q bq lq hq hqx hlq hh
        obtain ⟨lq', hlq', _⟩ := hi.blk q bq hq
        have := hle _ _ hlq'
        rw [hlq] at this; simp at this; subst this
        exact hqx (hi.inj x q b bq l lq hb hq hl hlq' hrw hh.symm).symm
      by_cases h1 : y = N <;> by_cases h2 : z = N
      · rw [h1, h2]
      · subst h1
        rw [if_neg h2, find_del] at hz
        split at hz
        · simp at hz
        · rename_i hzx
          rw [Env.add_self] at hly; simp at hly; subst hly
          exact absurd hbb.symm (old z bz lz hz hzx hlz)
      · subst h2
        rw [if_neg h1, find_del] at hy
        split at hy
        · simp at hy
        · rename_i hyx
          rw [Env.add_self] at hlz; simp at hlz; subst hlz
          exact absurd hbb (old y by' ly hy hyx hly)
      · rw [if_neg h1, find_del] at hy
        rw [if_neg h2, find_del] at hz
        split at hy
        · simp at hy
        · split at hz
          · simp at hz
          · simp [Env.add, h1] at hly
            simp [Env.add, h2] at hlz
            exact hi.inj y z by' bz ly lz hy hz hly hlz hr hbb
  prov y q ly hy hly := by
    rw [find_put] at hy
    split at hy
    · rename_i hye; subst hye
      rw [Env.add_self] at hly; simp at hly; subst hly
      exact .inl ⟨x, b, l, hb, hl, rfl, fun _ => hrw⟩
    · rename_i hye
      rw [find_del] at hy
      split at hy
      · simp at hy
      · simp [Env.add, hye] at hly
        exact .inl ⟨y, q, ly, hy, hly, rfl, id⟩
end
end Go.Sx

/- What the executor's append answers, the machine's append answers. -/
namespace Go.Sx
open Go

section
variable {P : Program} {w : World} {ρ : Env} {R : Type} {r : R}

theorem run_zeroCells_len (z : Array Value) (n : Nat) : (Builtin.zeroCells z n).size = n * z.size := by simp [Builtin.zeroCells]

/-- append, once its operands are read: what it does where there is room, and where there is none. -/
theorem run_append {t u e : TypeId} {E : TypeDesc} {ts : Array TypeId} {ty : TypeId} {base : Option Addr} {sl cap m : Nat} {x' : Value} {n : Nat} {old new : Array Value} {i : TypeInfo} {zv : Value}
    (ht : ts[0]? = some t) (hu : ts[1]? = some u) (hut : P.underlying t = some (.slice e)) (huu : P.underlying u = some E) (hE : ∀ k, E ≠ .int k) (hm : szOf P e = some m) (hi : P.info? e = some i) (hb : 1 ≤ i.bytes) (hb2 : i.bytes ≤ 2 ^ 20)
    (hlen : (Builtin.lenOf x').run P w = .ok n w) (hnew : ∀ w' : World, w'.heap = w.heap → (Builtin.firstCells m n x').run P w' = .ok new w') (hold : ∀ w' : World, w'.heap = w.heap → (Builtin.firstCells m sl (.slice base sl cap)).run P w' = .ok old w')
    (hneed : (sl + n) * i.bytes ≤ 2 ^ 47 + 2 ^ 20) (hz : ∀ w' : World, (zeroValue e).run P w' = .ok zv w') :
    (sl + n ≤ cap → (Builtin.append_ ts ty #[.slice base sl cap, x']).run P w = match base with
      | some a => ((storeCells (a.add (sl * m)) new.toList).run P w).andThen fun _ w' => .ok (.slice base (sl + n) cap) w'
      | none => .ok (.slice base (sl + n) cap) w) ∧
    (cap < sl + n → ∃ newCap, sl + n ≤ newCap ∧ newCap < 2 ^ 63 ∧
      (Builtin.append_ ts ty #[.slice base sl cap, x']).run P w = .ok (.slice (some ⟨w.heap.size, 0, none⟩) (sl + n) newCap) (w.drew.alloc (.cells (old ++ new ++ Builtin.zeroCells zv.cells (newCap - (sl + n))) e))) := by
  have hzeros : (match E with | .int _ => true | _ => false) = false := by cases E <;> first | rfl | exact absurd rfl (hE _)
  have h63 : sl + n < 2 ^ 63 := by
    have : sl + n ≤ (sl + n) * i.bytes := Nat.le_mul_of_pos_right _ hb
    omega
  constructor
  · intro hroom
    simp only [Builtin.append_, ht, hu]
    simp only [List.getElem?_toArray, List.getElem?_cons_zero, List.getElem?_cons_succ, Sem.run_bind, run_underlying hut, Result.andThen_ok, run_sizeOf hm, run_underlying huu, Sem.run_pure, hzeros, Bool.false_eq_true, if_false, hlen]
    rw [if_pos hroom]
    simp only [Bool.not_false, if_true, Sem.run_bind, hnew w rfl, Result.andThen_ok]
    cases base with
    | none => simp
    | some a => simp only [Sem.run_bind, Sem.run_pure]
  · intro hno
    refine ⟨(Question.appendCap (sl + n) cap e).cut (w.tape w.drawn (.appendCap (sl + n) cap e)), ?_, ?_, ?_⟩
    · simp [Question.cut]
    · simp only [Question.cut]
      have := Nat.mod_lt (w.tape w.drawn (.appendCap (sl + n) cap e)) (show 0 < 2 ^ 63 - (sl + n) by omega)
      omega
    · simp only [Builtin.append_, ht, hu]
      simp only [List.getElem?_toArray, List.getElem?_cons_zero, List.getElem?_cons_succ, Sem.run_bind, run_underlying hut, Result.andThen_ok, run_sizeOf hm, run_underlying huu, Sem.run_pure, hzeros, Bool.false_eq_true, if_false, hlen]
      rw [if_neg (by omega)]
      simp only [Sem.run_bind, run_typeInfo hi, Result.andThen_ok]
      rw [if_neg (by rintro ⟨_, h | h⟩
                     · simp at h
                     · omega)]
      simp only [Sem.run_pure, Result.andThen_ok, run_typeInfo hi, Sem.run_bind]
      rw [if_neg (by have := nextcap_le hno hb2 hneed; omega)]
      have hforced : (Question.appendCap (sl + n) cap e).forced = false := rfl
      simp only [Sem.run_pure, Result.andThen_ok, Sem.run_bind, run_choose, hforced, Bool.false_eq_true, if_false, run_typeInfo hi, run_askRoom, Bool.not_false, if_true]
      simp only [World.drew_eq]
      rw [hold w.drew rfl]
      simp only [Result.andThen_ok]
      rw [hnew w.drew rfl]
      simp only [Result.andThen_ok, Sem.run_bind, hz, newRow, run_newObj, Sem.run_pure, World.alloc_eq]
      rfl

theorem Inv.same {H : Heap} {w' : World} (hi : Inv ρ H w) (h : w'.heap = w.heap) : Inv ρ H w' := by
  constructor
  · intro x b hx
    obtain ⟨l, hl, hb⟩ := hi.blk x b hx
    exact ⟨l, hl, hb.mono (fun _ _ h => h) (by rw [h])⟩
  · exact hi.inj

theorem appendA_sound {t u : TypeId} {E : TypeDesc} {ts : Array TypeId} {ty : TypeId} (ht : ts[0]? = some t) (hu : ts[1]? = some u) (huu : P.underlying u = some E) (hE : ∀ k, E ≠ .int k)
    {H : Heap} {s x : AV} {N : Nat} {K : AV → Eff → Nat → Option R} (h : appendA P t H s x N K = some r) :
    ∃ v e N', K v e N' = some r ∧ N ≤ N' ∧ ∀ ρ w s' x', VR ρ s s' → VR ρ x x' → Inv ρ H w → Fresh ρ N N' →
      ∃ z w', (Builtin.append_ ts ty #[s', x']).run P w = .ok z w' ∧ Post ρ H N w e N' v z w' := by
  unfold appendA at h
  split at h
  · rename_i e hut
    split at h
    · split at h
      · rename_i m hm
        refine ⟨_, _, _, h, Nat.le_refl _, fun ρ w s' x' hs hx hinv hf => ?_⟩
        simp only [VR] at hs hx; subst hs; subst hx
        refine ⟨.slice none 0 0, w, ?_, Post.same hinv (by simp only [VR])⟩
        have hzeros : (match E with | .int _ => true | _ => false) = false := by cases E <;> first | rfl | exact absurd rfl (hE _)
        simp only [Builtin.append_, ht, hu]
        simp only [List.getElem?_toArray, List.getElem?_cons_zero, List.getElem?_cons_succ, Sem.run_bind, run_underlying hut, Result.andThen_ok, run_sizeOf hm, run_underlying huu, Sem.run_pure, hzeros, Bool.false_eq_true, if_false, Builtin.lenOf]
        simp [Builtin.firstCells]
      · rename_i p es n m hm
        refine ⟨_, _, _, h, Nat.le_refl _, fun ρ w s' x' hs hx hinv hf => ?_⟩
        have hs0 := hs
        simp only [VR] at hs hx; subst hx
        obtain ⟨l, cap, hl, hcap, h63, hext, rfl⟩ := hs
        refine ⟨.slice (some (l.addr p.pos)) n cap, w, ?_, Post.same hinv hs0⟩
        have hzeros : (match E with | .int _ => true | _ => false) = false := by cases E <;> first | rfl | exact absurd rfl (hE _)
        simp only [Builtin.append_, ht, hu]
        simp only [List.getElem?_toArray, List.getElem?_cons_zero, List.getElem?_cons_succ, Sem.run_bind, run_underlying hut, Result.andThen_ok, run_sizeOf hm, run_underlying huu, Sem.run_pure, hzeros, Bool.false_eq_true, if_false, Builtin.lenOf]
        simp [Builtin.firstCells, hcap, storeCells]
      · simp at h
    · split at h
      · rename_i c sh m i z hsh hm hi hz
        cases hc : (Nat.beq m (sh.length + 1) && Nat.ble 1 i.bytes && Nat.ble i.bytes (2 ^ 20) && Nat.beq z.length m && allCells z) with
        | false => rw [hc] at h; simp at h
        | true =>
          rw [hc] at h
          simp only [cond_true] at h
          simp only [Bool.and_eq_true, beq_true, ble_true] at hc
          obtain ⟨⟨⟨⟨hml, hb1⟩, hb2⟩, hzl⟩, hcells⟩ := hc
          cases how : ownsA H m s with
          | true =>
            rw [how] at h
            simp only [cond_true] at h
            obtain ⟨a, ha, h1⟩ := rowsK_some h
            clear h
            obtain ⟨b, hb, h⟩ := rowsK_some h1
            clear h1
            cases hd : (decide (1 ≤ b.length) && v_room (a.length + b.length) i.bytes) with
            | false => rw [hd] at h; simp at h
            | true =>
              rw [hd] at h
              simp only [cond_true] at h
              simp only [Bool.and_eq_true, decide_eq_true_eq] at hd
              obtain ⟨hbl, hneed⟩ := hd
              unfold v_room at hneed
              rw [decide_eq_true_eq] at hneed
              refine ⟨_, _, _, h, by omega, fun ρ w s' x' hs hx hinv hf => ?_⟩
              have hshl : (c :: sh).length = m := by simp [hml]
              have hpos : 0 < (c :: sh).length := by simp
              have hsame : ∀ w' : World, w'.heap = w.heap → Inv ρ H w' := fun w' h => hinv.same h
              obtain ⟨hla, ysa, hya, hra, hca⟩ := rowsOf_sound (P := P) ha hpos hs hinv
              obtain ⟨hlb, ysb, hyb, hrb, _⟩ := rowsOf_sound (P := P) hb hpos hx hinv
              rw [hshl] at hya hyb
              have hzv : ∃ zv, (∀ w' : World, (zeroValue e).run P w' = .ok zv w') ∧ zv.cells.size = m := by
                obtain ⟨zv, hzv, hzr⟩ := zeroA_sound (w := w) (ρ := ρ) hz hcells
                unfold zeroA at hz
                rw [hi] at hz
                cases hzz : i.zero with
                | none => simp [hzz] at hz
                | some zz =>
                  have e1 : ∀ w' : World, (zeroValue e).run P w' = .ok zz w' := fun w' => by simp [zeroValue, run_typeInfo hi, hzz]
                  have : zv = zz := by have := e1 w; rw [hzv] at this; simp at this; exact this
                  subst this
                  exact ⟨zv, e1, by have := VRs_length hzr; simp at this; omega⟩
              obtain ⟨zv, hzrun, hzs⟩ := hzv
              have hysa : ysa.toList.length = a.length * m := by have := VRs_length hra; rw [arrFlat_length, hshl] at this; exact this.symm
              have hysb : ysb.toList.length = b.length * m := by have := VRs_length hrb; rw [arrFlat_length, hshl] at this; exact this.symm
              have hflat : flat [.arr (c :: sh) (a.length + b.length) (a ++ b)] = arrFlat (c :: sh) a.length a ++ arrFlat (c :: sh) b.length b := by
                simp only [flat, List.append_nil, arrFlat_append]
              have hvr : VRs ρ (flat [.arr (c :: sh) (a.length + b.length) (a ++ b)]) (ysa.toList ++ ysb.toList) := by rw [hflat]; exact VRs_append hra hrb
              -- a new block
              have grow : ∀ (base : Option Addr) (cap : Nat), s' = .slice base a.length cap → cap < a.length + b.length → ∃ z w', (Builtin.append_ ts ty #[s', x']).run P w = .ok z w' ∧
                  ∀ H0 : Heap, Inv ρ H0 w → ∃ ρ', Step ρ H0 N w ρ' (H0.put N ⟨true, [.arr (c :: sh) (a.length + b.length) (a ++ b)]⟩) (N + 1) w' ∧ VR ρ' (.slice ⟨N, 0, 0, m, 0⟩ m (a.length + b.length)) z := by
                rintro base cap rfl hcap
                obtain ⟨_, hg⟩ := run_append (w := w) (ty := ty) (base := base) (sl := a.length) (cap := cap) ht hu hut huu hE hm hi hb1 hb2 hlb hyb hya hneed hzrun
                obtain ⟨newCap, hc1, hc2, hrun⟩ := hg hcap
                refine ⟨_, _, hrun, fun H0 hinv0 => ?_⟩
                refine ⟨_, (Step.drew hinv0).trans (step_new (ys := ysa.toList ++ ysb.toList) (hinv0.drew) (hf N (Nat.le_refl _) (by omega)) hvr ?_) (Nat.le_refl _) (by omega), ?_⟩
                · intro j y hj
                  rw [← Array.getElem?_toList, Array.toList_append, Array.toList_append, List.getElem?_append_left]
                  · exact hj
                  · have := (List.getElem?_eq_some_iff.1 hj).1
                    simpa using this
                · simp only [VR]
                  refine ⟨_, newCap, Env.add_self, hc1, hc2, fun _ => ?_, by simp [Loc.addr, AP.pos]⟩
                  have e1 : ysa.size = a.length * m := by simpa using hysa
                  have e2 : ysb.size = b.length * m := by simpa using hysb
                  simp only [AP.pos, Array.size_append, run_zeroCells_len, hzs, e1, e2]
                  rw [← Nat.add_mul, ← Nat.add_mul, show a.length + b.length + (newCap - (a.length + b.length)) = newCap by omega]
                  omega
              cases s <;> simp only [rowsOf, reduceCtorEq] at ha
              case nilslice =>
                simp only [VR] at hs; subst hs
                simp at ha; subst ha
                obtain ⟨z, w', hrun, hp⟩ := grow none 0 rfl (by simp; omega)
                exact ⟨z, w', hrun, hp H hinv⟩
              case slice p es n =>
                obtain ⟨hn, hcell⟩ := hca p es n rfl
                simp only [VR] at hs
                obtain ⟨l, cap, hl, hcap, h63, hext, rfl⟩ := hs
                unfold ownsA at how
                cases hbk : H.find p.x with
                | none => simp [hbk] at how
                | some bk =>
                  simp only [hbk, Bool.and_eq_true, beq_true] at how
                  obtain ⟨hbrw, rfl⟩ := how
                  obtain ⟨l', hl', cc, ee, fr, h1, h2, h3, h4⟩ := hinv.blk p.x bk hbk
                  rw [hl] at hl'; simp at hl'; subst hl'
                  obtain ⟨rfl, hex⟩ := h3 hbrw
                  have hrw : l.rw = true := by rw [h2, hbrw]
                  have hext' := hext hrw
                  rw [hex] at hext'
                  rcases Nat.lt_or_ge cap (a.length + b.length) with hcap2 | hcap2
                  · obtain ⟨z, w', hrun, hp⟩ := grow (some (l.addr p.pos)) cap (by rw [hn]) hcap2
                    obtain ⟨ρ', hst, hvr'⟩ := hp (H.del p.x) (hinv.del p.x)
                    exact ⟨z, w', hrun, ρ', (step_del hinv p.x).trans hst (Nat.le_refl _) (by omega), hvr'⟩
                  · obtain ⟨hr, _⟩ := run_append (w := w) (ty := ty) (base := some (l.addr p.pos)) (sl := a.length) (cap := cap) ht hu hut huu hE hm hi hb1 hb2 hlb hyb (by rw [hn]; rw [hn] at hya; exact hya) hneed hzrun
                    have hr := hr hcap2
                    have hle : a.length * es + b.length * es ≤ cap * es := by rw [← Nat.add_mul]; exact Nat.mul_le_mul_right _ hcap2
                    have hone : ∀ y ∈ ysb.toList, y.oneCell' = true := VRs_oneCell (arrFlat_allCells _ _ _) hrb
                    have hst := run_storeCells (P := P) ysb.toList w l.b cc ee (l.o + (p.pos + a.length * es)) 0 h1 hone (by rw [hysb]; omega)
                    simp only [addr_add] at hr
                    have hst' : (storeCells (l.addr (p.pos + a.length * es)) ysb.toList).run P w = .ok () { w with heap := w.heap.setIfInBounds l.b (.cells (writeC cc (l.o + (p.pos + a.length * es)) ysb.toList) ee (0, 0)) } := hst
                    rw [hst'] at hr
                    simp only [Result.andThen_ok] at hr
                    refine ⟨_, _, by rw [← hn]; exact hr, _, step_move (o := l.o + p.pos) (ys := ysa.toList ++ ysb.toList) hinv (hf N (Nat.le_refl _) (by omega)) hbk hl hrw h1 (writeC_size _ _ _) hvr ?_, ?_⟩
                    · intro j y hj
                      rw [writeC_get _ _ _ _ (by rw [hysb]; omega)]
                      rcases Nat.lt_or_ge j (a.length * es) with hj2 | hj2
                      · rw [if_neg (by omega)]
                        rw [List.getElem?_append_left (by omega)] at hj
                        have := hcell l hl j y hj
                        rw [show l.addr (p.pos + j) = ⟨l.b, l.o + p.pos + j, none⟩ by simp [Loc.addr, Nat.add_assoc]] at this
                        rw [cell_of h1] at this
                        exact this
                      · rw [List.getElem?_append_right (by omega), hysa] at hj
                        have hlt := (List.getElem?_eq_some_iff.1 hj).1
                        rw [if_pos (by omega)]
                        rw [show l.o + p.pos + j - (l.o + (p.pos + a.length * es)) = j - a.length * es by omega]
                        exact hj
                    · simp only [VR]
                      refine ⟨_, cap, Env.add_self, hcap2, h63, fun _ => ?_, by simp [Loc.addr, AP.pos]⟩
                      show l.o + p.pos + (0 + 0 * es + 0) + cap * es ≤ cc.size
                      omega
          | false => rw [how] at h; simp at h
      · simp at h
  · simp at h
end
end Go.Sx


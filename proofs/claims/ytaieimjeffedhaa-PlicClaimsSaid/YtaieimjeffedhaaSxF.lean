/- What the executor's operations answer, the machine's operations answer: the operations one by one. -/
import Derived.Test.YtaieimjeffedhaaSxE
set_option linter.unusedSimpArgs false
set_option linter.unusedVariables false
set_option linter.unnecessarySimpa false
namespace Go.Sx
open Go

section
variable {P : Program} {w : World} {ρ : Env} {R : Type} {r : R}

def plain : AV → Bool
  | .any | .int _ _ | .lit _ => false
  | _ => true
theorem eqA_plain {d : Nat} {t : TypeId} {x y : AV} {b : Bool} (h : eqA P d t x y = some b) : (∃ k v k' v', x = .int k v ∧ y = .int k' v') ∨ plain x = true ∧ (x = .nilface → y ≠ .nilface) := by
  cases d with
  | zero => simp [eqA] at h
  | succ d =>
    simp only [eqA] at h
    split at h
    case h_2 => exact .inl ⟨_, _, _, _, rfl, rfl⟩
    case h_16 => simp at h
    all_goals exact .inr ⟨rfl, by simp⟩
theorem binOp_eql_plain {x y : AV} {x' y' : Value} (t : TypeId) (hx : plain x = true) (h : VR ρ x x') : binOp .eql t x' y' = (do pure (.bool (← Op.equal t x' y'))) ∧ binOp .neq t x' y' = (do pure (.bool (!(← Op.equal t x' y')))) := by
  cases x <;> simp [plain] at hx <;> simp only [VR] at h
  case bool => subst h; exact ⟨rfl, rfl⟩
  case ptr => obtain ⟨_, _, rfl⟩ := h; exact ⟨rfl, rfl⟩
  case nilptr => subst h; exact ⟨rfl, rfl⟩
  case slice => obtain ⟨_, _, _, _, _, _, rfl⟩ := h; exact ⟨rfl, rfl⟩
  case nilslice => subst h; exact ⟨rfl, rfl⟩
  case func => obtain ⟨_, _, rfl, _⟩ := h; exact ⟨rfl, rfl⟩
  case nilfunc => subst h; exact ⟨rfl, rfl⟩
  case iface => obtain ⟨_, rfl, _⟩ := h; exact ⟨rfl, rfl⟩
  case nilface => subst h; exact ⟨rfl, rfl⟩
  case agg => obtain ⟨_, rfl, _⟩ := h; exact ⟨rfl, rfl⟩
  case tup => obtain ⟨_, rfl, _⟩ := h; exact ⟨rfl, rfl⟩
theorem eqGuard_int (op : BinOp) (t : TypeId) (ox oy : Operand) (k k' : IntKind) (a b : Int) : (eqGuard op t ox oy (.int k a) (.int k' b)).run P w = .ok () w := by
  cases op <;> simp [eqGuard]
theorem eqGuard_plain (op : BinOp) (t : TypeId) (ox oy : Operand) (x' y' : Value) (hm : P.eqGuardType P.depth t = false) (h : x' = .nilIface → y' ≠ .nilIface) : (eqGuard op t ox oy x' y').run P w = .ok () w := by
  unfold eqGuard
  cases op <;> simp only [Bool.not_true, Bool.not_false, Bool.false_eq_true, if_false, if_true, Sem.run_pure, Result.andThen_ok] <;> (
    split
    · rename_i e1 e2; exact absurd rfl (h rfl)
    · simp [hm]
    · simp)
theorem VR_nilface {x : AV} {y : AV} {x' y' : Value} (hp : plain x = true) (hx : VR ρ x x') (hy : VR ρ y y') (h : x = .nilface → y ≠ .nilface) (he : ∃ d t b, eqA P d t x y = some b) : x' = .nilIface → y' ≠ .nilIface := by
  obtain ⟨d, t, b, he⟩ := he
  intro e1 e2
  subst e1; subst e2
  cases x <;> simp [plain] at hp <;> simp only [VR] at hx <;> try (simp at hx; done)
  case nilface =>
    cases d with
    | zero => simp [eqA] at he
    | succ d =>
      simp only [eqA] at he
      split at he <;> first | (simp at he; done) | (simp_all [VR]; done)

theorem binA_sound {op : BinOp} {t : TypeId} {x y : AV} {K : AV → Option R} (h : binA P op t x y K = some r) :
    ∃ v, K v = some r ∧ ∀ (ρ : Env) (w : World) (x' y' : Value) (ox oy : Operand), VR ρ x x' → VR ρ y y' → ∃ z, (eqGuard op t ox oy x' y').run P w = .ok () w ∧ (binOp op t x' y').run P w = .ok z w ∧ VR ρ v z := by
  unfold binA at h
  split at h
  · rename_i k a yk b
    cases hn : nonneg yk b with
    | false => simp [hn] at h
    | true =>
      simp only [hn, cond_true] at h
      refine ⟨_, h, fun ρ w x' y' ox oy hx hy => ⟨.int k (den k (shlA a b.toNat)), ?_, ?_, by simp [VR]⟩⟩ <;> simp only [VR] at hx hy <;> subst hx <;> subst hy
      · exact eqGuard_int _ _ _ _ _ _ _ _
      · have hd := nonneg_den hn
        simp only [binOp, Op.shift, hd]
        rw [if_neg (by omega)]
        simp only [Int.toNat_natCast, Sem.run_pure, den_shl]
  · rename_i k a yk b
    cases hn : nonneg yk b with
    | false => simp [hn] at h
    | true =>
      simp only [hn, cond_true] at h
      refine ⟨_, h, fun ρ w x' y' ox oy hx hy => ⟨.int k (den k (shrA k a b.toNat)), ?_, ?_, by simp [VR]⟩⟩ <;> simp only [VR] at hx hy <;> subst hx <;> subst hy
      · exact eqGuard_int _ _ _ _ _ _ _ _
      · have hd := nonneg_den hn
        simp only [binOp, Op.shift, hd]
        rw [if_neg (by omega)]
        simp only [Int.toNat_natCast, Sem.run_pure, den_shr]
  · rename_i k a k' b
    split at h
    · rename_i hk; subst hk
      obtain ⟨v, hv, hz⟩ := intBin_sound (P := P) t h
      refine ⟨v, hv, fun ρ w x' y' ox oy hx hy => ?_⟩
      simp only [VR] at hx hy; subst hx; subst hy
      obtain ⟨z, hz, hr⟩ := hz ρ w
      exact ⟨z, eqGuard_int _ _ _ _ _ _ _ _, hz, hr⟩
    · simp at h
  · cases hm : P.eqGuardType P.depth t with
    | true => simp [hm] at h
    | false =>
      simp only [hm, cond_false] at h
      split at h
      · rename_i b hb
        rcases eqA_plain hb with ⟨k, v, k', v', rfl, rfl⟩ | ⟨hp, hnf⟩
        · exfalso; rename_i hne; exact hne k v k' v' rfl rfl
        · refine ⟨_, h, fun ρ w x' y' ox oy hx hy => ⟨.bool b, eqGuard_plain _ _ _ _ _ _ hm (VR_nilface hp hx hy hnf ⟨_, _, _, hb⟩), ?_, by simp [VR]⟩⟩
          rw [(binOp_eql_plain (y := y) t hp hx).1]
          simp [Op.equal, eqA_sound 100 Op.maxDepth t x y x' y' b (by decide) hb hx hy]
      · simp at h
  · cases hm : P.eqGuardType P.depth t with
    | true => simp [hm] at h
    | false =>
      simp only [hm, cond_false] at h
      split at h
      · rename_i b hb
        rcases eqA_plain hb with ⟨k, v, k', v', rfl, rfl⟩ | ⟨hp, hnf⟩
        · exfalso; rename_i hne; exact hne k v k' v' rfl rfl
        · refine ⟨_, h, fun ρ w x' y' ox oy hx hy => ⟨.bool (!b), eqGuard_plain _ _ _ _ _ _ hm (VR_nilface hp hx hy hnf ⟨_, _, _, hb⟩), ?_, by simp [VR]⟩⟩
          rw [(binOp_eql_plain (y := y) t hp hx).2]
          simp [Op.equal, eqA_sound 100 Op.maxDepth t x y x' y' b (by decide) hb hx hy]
      · simp at h
  · simp at h

theorem unA_sound {op : UnOp} {x v : AV} {x' : Value} (h : unA op x = some v) (hx : VR ρ x x') : ∃ z, (Op.unary op x').run P w = .ok z w ∧ VR ρ v z := by
  unfold unA at h
  split at h <;> simp only [Option.some.injEq, reduceCtorEq] at h
  · rename_i k n
    subst h; simp only [VR] at hx; subst hx
    exact ⟨.int k (den k (-n)), by simp only [Op.unary, Op.intArith, Sem.run_pure, den_neg], by simp only [VR]⟩
  · subst h; simp only [VR] at hx; subst hx
    rename_i k n
    refine ⟨.int k (den k (~~~n)), ?_, by simp only [VR]⟩
    simp only [Op.unary, Op.intBits, ofInt_den]
    have : BitVec.ofInt k.bits (if k.signed = true then -1 else k.max) = BitVec.allOnes k.bits := by
      unfold IntKind.max
      cases hs : k.signed <;> simp only [Bool.false_eq_true, if_false, if_true]
      · cases k <;> simp [IntKind.signed] at hs <;> rfl
      · cases k <;> simp [IntKind.signed] at hs <;> rfl
    rw [this]
    rw [BitVec.xor_comm, BitVec.xor_allOnes]; simp only [Sem.run_pure, wrap_toNat]
  · rename_i b
    subst h; simp only [VR] at hx; subst hx
    exact ⟨.bool (!b), by simp only [Op.unary, Sem.run_pure], by simp only [VR]⟩

/-- A value out of its cells. -/
theorem aggOr_part {t : TypeId} {n : Nat} {cs : List AV} {K : AV → Option R} (hn : szOf P t = some n) (h : aggOr P t cs K = some r) (hc : cs.length = n) :
    ∃ v, K v = some r ∧ ∀ (ρ : Env) (w : World) (a : Array Value) (o : Nat), VRs ρ cs (a.toList.drop o |>.take n) → ∃ y, (part t a o).run P w = .ok y w ∧ VR ρ v y := by
  unfold aggOr at h
  split at h
  · rename_i ha
    refine ⟨_, h, fun ρ w a o hv => ⟨_, run_part_agg ha hn a o, ?_⟩⟩
    simp only [VR]
    refine ⟨_, rfl, ?_⟩
    simpa [Array.toList_extract, List.extract_eq_take_drop, Nat.add_sub_cancel_left] using hv
  · rename_i ha
    split at h
    · rename_i v
      refine ⟨v, h, fun ρ w a o hv => ?_⟩
      obtain ⟨y, hy, hr⟩ := VRs_one_iff.1 hv
      refine ⟨y, run_part_cell ha ?_, hr⟩
      have h0 : (List.take n (List.drop o a.toList))[0]? = some y := by rw [hy]; rfl
      rw [List.getElem?_take_of_lt (by simp at hc; omega), List.getElem?_drop] at h0
      simpa using h0
    · simp at h
  · simp at h

/-! building -/
theorem VRs_splice {l vs : List AV} {ys zs : List Value} (h : VRs ρ l ys) (hv : VRs ρ vs zs) (o : Nat) : VRs ρ (splice l o vs) (ys.take o ++ (zs ++ ys.drop (o + zs.length))) := by
  unfold splice
  rw [VRs_length hv]
  exact VRs_append (VRs_take o h) (VRs_append hv (VRs_drop _ h))
theorem foldl_set : ∀ (vs : List Value) (cs : Array Value) (o k : Nat), o + k + vs.length ≤ cs.size →
    (((vs.zipIdx k).foldl (fun cs (x : Value × Nat) => cs.setIfInBounds (o + x.2) x.1) cs).toList = cs.toList.take (o + k) ++ (vs ++ cs.toList.drop (o + k + vs.length)))
  | [], cs, o, k, _ => by simp
  | v :: vs, cs, o, k, h => by
    simp only [List.length_cons] at h
    simp only [List.zipIdx_cons, List.foldl_cons]
    rw [foldl_set vs _ o (k + 1) (by simp; omega)]
    simp only [Array.toList_setIfInBounds, List.length_cons]
    apply List.ext_getElem?
    intro j
    rcases Nat.lt_or_ge j (o + k) with hj | hj
    · rw [List.getElem?_append_left (by simp; omega), List.getElem?_append_left (by simp; omega), List.getElem?_take_of_lt (by omega), List.getElem?_take_of_lt (by omega), List.getElem?_set_ne (by omega)]
    · rcases Nat.lt_or_ge j (o + k + 1) with hj2 | hj2
      · have : j = o + k := by omega
        subst this
        rw [List.getElem?_append_left (by simp; omega), List.getElem?_take_of_lt (by omega), List.getElem?_append_right (by simp; omega)]
        rw [List.getElem?_set_self (by simp; omega)]
        simp [show o + k ≤ cs.size by omega]
      · rw [List.getElem?_append_right (by simp; omega), List.getElem?_append_right (by simp; omega) (l₁ := List.take (o + k) _)]
        simp only [List.length_take, List.length_set, Array.length_toList]
        rw [Nat.min_eq_left (by omega), Nat.min_eq_left (by omega)]
        obtain ⟨m, rfl⟩ : ∃ m, j = o + k + 1 + m := ⟨j - (o + k + 1), by omega⟩
        rw [show o + k + 1 + m - (o + (k + 1)) = m by omega, show o + k + 1 + m - (o + k) = m + 1 by omega]
        simp only [List.cons_append, List.getElem?_cons_succ]
        congr 2
        rw [show o + (k + 1) + vs.length = o + k + (vs.length + 1) by omega]
        rw [List.drop_set_of_lt (by omega)]
theorem fillA_sound {place : Nat → Option (Nat × Nat)} : ∀ {parts : List (Nat × AV)} {cs : List AV} {out : List AV} {ps : List (Nat × Value)} {a : Array Value}, fillA place cs parts = some out → VRs ρ cs a.toList →
    ps.map (·.1) = parts.map (·.1) → (∀ (i : Nat) (v : Nat × AV) (x : Nat × Value), parts[i]? = some v → ps[i]? = some x → VR ρ v.2 x.2) → ∃ b, Instr.fill place a ps = some b ∧ VRs ρ out b.toList
  | [], cs, out, ps, a, h, hv, hp, _ => by
    simp only [fillA, Option.some.injEq] at h; subst h
    have : ps = [] := by simpa using hp
    subst this
    exact ⟨a, rfl, hv⟩
  | (i, v) :: parts, cs, out, [], a, h, hv, hp, _ => by simp at hp
  | (i, v) :: parts, cs, out, (i', x) :: ps, a, h, hv, hp, hr => by
    simp only [List.map_cons, List.cons.injEq] at hp
    obtain ⟨rfl, hp⟩ := hp
    have hvx : VR ρ v x := hr 0 _ _ rfl rfl
    simp only [fillA] at h
    split at h
    · simp at h
    · rename_i off size hpl
      cases hc : (Nat.beq (cellsOf v).length size && Nat.ble (off + (cellsOf v).length) cs.length && allCells (cellsOf v)) with
      | false => rw [hc] at h; simp at h
      | true =>
        rw [hc] at h
        simp only [cond_true] at h
        simp only [Bool.and_eq_true, beq_true, ble_true] at hc
        obtain ⟨⟨hc1, hc2⟩, hc3⟩ := hc
        have hxc := VRs_cellsOf hvx hc3
        have hl := VRs_length hxc
        have hla := VRs_length hv
        simp only [Instr.fill, hpl]
        rw [if_neg (by
          have : x.cells.size = (cellsOf v).length := by simpa using hl.symm
          have h2 : cs.length = a.size := by simpa using hla
          simp [this, hc1]; omega)]
        refine fillA_sound h ?_ hp (fun j u y hu hy => hr (j + 1) u y (by simpa using hu) (by simpa using hy))
        have := foldl_set x.cells.toList a off 0 (by have : cs.length = a.size := by simpa using hla
                                                     omega)
        simp only [Nat.add_zero] at this
        have e : (x.cells.zipIdx.foldl (fun cs (z : Value × Nat) => cs.setIfInBounds (off + z.2) z.1) a).toList = a.toList.take off ++ (x.cells.toList ++ a.toList.drop (off + x.cells.toList.length)) := by
          rw [← this, ← Array.foldl_toList, Array.toList_zipIdx]
        rw [e]
        exact VRs_splice hv hxc off
theorem zeroA_sound {t : TypeId} {z : List AV} (h : zeroA P t = some z) (hc : allCells z = true) : ∃ v, (zeroValue t).run P w = .ok v w ∧ VRs ρ z v.cells.toList := by
  unfold zeroA at h
  split at h
  · rename_i i hi
    split at h
    · rename_i v hv
      simp at h; subst h
      exact ⟨v, by simp [zeroValue, run_typeInfo hi, hv], VRs_cellsOf (VR_ofV v) hc⟩
    · simp at h
  · simp at h
end
end Go.Sx

/- What the executor's operations answer, the machine's operations answer: parts of values, places, slices. -/
import Derived.Test.YtaieimjeffedhaaSxG
set_option linter.unusedSimpArgs false
set_option linter.unusedVariables false
set_option linter.unnecessarySimpa false
namespace Go.Sx
open Go

section
variable {P : Program} {w : World} {ρ : Env} {R : Type} {r : R}

theorem mapM_places (g : Field → Nat) : ∀ (l : List Field), (∀ f ∈ l, (sizeOf f.type).run P w = .ok (g f) w) →
    (l.mapM fun (f : Field) => (do let n ← sizeOf f.type; pure (f.offset, n) : Sem (Nat × Nat))).run P w = .ok (l.map fun f => (f.offset, g f)) w
  | [], _ => by simp
  | f :: l, h => by
    have h1 := h f (by simp)
    have h2 := mapM_places g l (fun f hf => h f (by simp [hf]))
    simp only [List.mapM_cons, Sem.run_bind, h1, Result.andThen_ok, Sem.run_pure, h2, List.map_cons]

theorem buildA_sound {t : TypeId} {parts : List (Nat × AV)} {v : AV} (h : buildA P t parts = some v) {ps : Array (Nat × Value)} (hp : ps.toList.map (·.1) = parts.map (·.1))
    (hr : ∀ (i : Nat) (v : Nat × AV) (x : Nat × Value), parts[i]? = some v → ps.toList[i]? = some x → VR ρ v.2 x.2) : ∃ z, (Instr.build t ps).run P w = .ok z w ∧ VR ρ v z := by
  unfold buildA at h
  split at h
  · rename_i z fs hz hu
    cases hc : (!(fs.toList.all fun f => (szOf P f.type).isSome) || !(allCells z)) with
    | true => rw [hc] at h; simp at h
    | false =>
      rw [hc] at h
      simp only [cond_false] at h
      simp only [Bool.or_eq_false_iff, Bool.not_eq_false', List.all_eq_true] at hc
      obtain ⟨hsz, hcells⟩ := hc
      split at h
      · rename_i l hl
        simp at h; subst h
        obtain ⟨zv, hzv, hzr⟩ := zeroA_sound (w := w) (ρ := ρ) hz hcells
        have hsize : ∀ f ∈ fs.toList, (sizeOf f.type).run P w = .ok ((szOf P f.type).getD 0) w := by
          intro f hf
          have := hsz f hf
          cases hn : szOf P f.type with
          | none => simp [hn] at this
          | some n => exact run_sizeOf hn
        have hpl := mapM_places (fun f => (szOf P f.type).getD 0) fs.toList hsize
        have hpl2 : (fs.mapM fun (f : Field) => (do let n ← sizeOf f.type; pure (f.offset, n) : Sem (Nat × Nat))).run P w = .ok (fs.map fun (f : Field) => (f.offset, (szOf P f.type).getD 0)) w := by
          have e : fs.mapM (fun (f : Field) => (do let n ← sizeOf f.type; pure (f.offset, n) : Sem (Nat × Nat))) = List.toArray <$> (fs.toList.mapM fun (f : Field) => (do let n ← sizeOf f.type; pure (f.offset, n) : Sem (Nat × Nat))) := by
            rw [← List.mapM_toArray]
          rw [e, Sem.run_map, hpl]
          simp only [Result.andThen_ok]
          congr 1
          apply Array.ext'
          simp
        obtain ⟨b, hb, hbr⟩ := fillA_sound (place := fun i => match fs[i]? with
            | some f => match szOf P f.type with
              | some n => some (f.offset, n)
              | none => none
            | none => none) hl hzr (ps := ps.toList) hp hr
        refine ⟨.agg b, ?_, by simp only [VR]; exact ⟨b, rfl, hbr⟩⟩
        have hpe : (fun (i : Nat) => (fs.map fun (f : Field) => (f.offset, (szOf P f.type).getD 0))[i]?) = (fun i => match fs[i]? with
            | some f => match szOf P f.type with
              | some n => some (f.offset, n)
              | none => none
            | none => none) := by
          funext i
          simp only [Array.getElem?_map]
          cases hf : fs[i]? with
          | none => rfl
          | some f =>
            have := hsz f (by
              have := Array.mem_of_getElem? hf
              simpa using this)
            cases hn : szOf P f.type with
            | none => simp [hn] at this
            | some n => simp [hn]
        simp only [Instr.build, Sem.run_bind, hzv, Result.andThen_ok, run_underlying hu, hpl2]
        have hza : zv.cells.toList.toArray = zv.cells := by simp
        rw [hpe] 
        have hbb : Instr.fill (fun i => match fs[i]? with
            | some f => match szOf P f.type with
              | some n => some (f.offset, n)
              | none => none
            | none => none) zv.cells ps.toList = some b := by simpa using hb
        rw [hbb]
        simp
      · simp at h
  · rename_i z k e hz hu
    cases hc : !(allCells z) with
    | true => rw [hc] at h; simp at h
    | false =>
      rw [hc] at h
      simp only [cond_false] at h
      simp only [Bool.not_eq_false'] at hc
      split at h
      · rename_i n hn
        split at h
        · rename_i l hl
          simp at h; subst h
          obtain ⟨zv, hzv, hzr⟩ := zeroA_sound (w := w) (ρ := ρ) hz hc
          obtain ⟨b, hb, hbr⟩ := fillA_sound hl hzr (ps := ps.toList) hp hr
          refine ⟨.agg b, ?_, by simp only [VR]; exact ⟨b, rfl, hbr⟩⟩
          simp only [Instr.build, Sem.run_bind, hzv, Result.andThen_ok, run_underlying hu, run_sizeOf hn]
          have hbb : Instr.fill (fun i => some (i * n, n)) zv.cells ps.toList = some b := by simpa using hb
          rw [hbb]
          simp
        · simp at h
      · simp at h
  · simp at h

theorem fieldAddrA_sound {t : TypeId} {x v : AV} {f : Nat} {x' : Value} (h : fieldAddrA P t x f = some v) (hx : VR ρ x x') : ∃ z, (Instr.fieldAt t x' f).run P w = .ok z w ∧ VR ρ v z := by
  unfold fieldAddrA at h
  split at h
  · rename_i fs p hu
    simp only [VR] at hx
    obtain ⟨l, hl, rfl⟩ := hx
    split at h
    · rename_i fd hf
      split at h
      · rename_i n hn
        have hrun : (Instr.fieldAt t (.pointer (some (l.addr p.pos))) f).run P w = .ok (.pointer (some (l.addr (p.pos + fd.offset)))) w := by
          simp [Instr.fieldAt, run_underlying hu, hf, Instr.sureAddr, fieldPlace, run_sizeOf hn, addr_add]
        refine ⟨_, hrun, ?_⟩
        split at h <;> (rename_i hsz; simp at h; subst h; simp only [VR]; refine ⟨l, hl, ?_⟩; congr 3; simp [AP.pos, hsz]; omega)
      · simp at h
    · simp at h
  · simp at h

theorem fieldA_sound {t : TypeId} {x : AV} {f : Nat} {K : AV → Option R} (h : fieldA P t x f K = some r) : ∃ v, K v = some r ∧ ∀ (ρ : Env) (w : World) (x' : Value), VR ρ x x' → ∃ z, (Instr.field t x' f).run P w = .ok z w ∧ VR ρ v z := by
  unfold fieldA at h
  split at h
  · rename_i fs cs hu
    split at h
    · rename_i fd hf
      split at h
      · rename_i n hn
        unfold cutA at h
        cases hc : Nat.beq ((cs.drop fd.offset).take n).length n with
        | false => rw [hc] at h; simp at h
        | true =>
          rw [hc] at h
          simp only [cond_true] at h
          rw [beq_true] at hc
          obtain ⟨v, hv, hall⟩ := aggOr_part hn h hc
          refine ⟨v, hv, fun ρ w x' hx => ?_⟩
          simp only [VR] at hx
          obtain ⟨a, rfl, ha⟩ := hx
          obtain ⟨y, hy, hr⟩ := hall ρ w a fd.offset (VRs_take n (VRs_drop fd.offset ha))
          exact ⟨y, by simp [Instr.field, run_underlying hu, hf, asAgg, hy], hr⟩
      · simp at h
    · simp at h
  · simp at h

theorem den_lt_iff {k : IntKind} {v : BitVec k.bits} {n : Nat} (h : nonneg k v = true) (hl : v.toNat < n) : 0 ≤ den k v ∧ den k v < (n : Int) := by
  rw [nonneg_den h]; omega

theorem AP.pos0 {p : AP} (h : p.sz = 0) : p.pos = p.off + p.j := by simp [AP.pos, h]
theorem stepTo_pos {p : AP} {m a : Nat} (hps : p.sz = 0 ∨ p.sz = m) : (stepTo p m a).pos = p.pos + a * m := by
  unfold stepTo
  split
  · rename_i hz; rw [AP.pos0 hz, AP.pos0 (by simpa using hz)]; simp only; omega
  · rename_i s hz
    have : p.sz = m := by rcases hps with h0 | h0 <;> omega
    simp only [AP.pos, this, Nat.add_mul]; omega
theorem stepTo_x {p : AP} {m a : Nat} : (stepTo p m a).x = p.x := by unfold stepTo; split <;> rfl
theorem indexAddrA_sound {t : TypeId} {x ix : AV} {K : AV → Option R} (h : indexAddrA P t x ix K = some r) : ∃ v, K v = some r ∧ ∀ (ρ : Env) (w : World) (x' ix' : Value), VR ρ x x' → VR ρ ix ix' → ∃ z, (Instr.indexAt t x' ix').run P w = .ok z w ∧ VR ρ v z := by
  unfold indexAddrA at h
  split at h
  · rename_i k v
    split at h
    · rename_i e p es n hu
      split at h
      · rename_i m hm
        cases hc : (Nat.beq m es && (Nat.beq p.sz 0 || Nat.beq p.sz es)) with
        | false => rw [hc] at h; simp at h
        | true =>
          rw [hc] at h
          simp only [cond_true] at h
          simp only [Bool.and_eq_true, Bool.or_eq_true, beq_true] at hc
          obtain ⟨rfl, hps⟩ := hc
          cases hi : (nonneg k v && decide (v.toNat < n)) with
          | false => rw [hi] at h; simp at h
          | true =>
            rw [hi] at h
            simp only [cond_true] at h
            simp only [Bool.and_eq_true, decide_eq_true_eq] at hi
            have hd := den_lt_iff hi.1 hi.2
            refine ⟨_, h, fun ρ w x' ix' hx hix => ?_⟩
            simp only [VR] at hix; subst hix
            simp only [VR] at hx
            obtain ⟨l, cap, hl, hcap, h63, hext, rfl⟩ := hx
            refine ⟨.pointer (some (l.addr (p.pos + v.toNat * m))), ?_, ?_⟩
            · simp only [Instr.indexAt, Sem.run_bind, asIntOf, Sem.run_pure, Result.andThen_ok, run_underlying hu, run_sizeOf hm]
              rw [if_pos hd]
              simp only [Sem.run_bind, run_sizeOf hm, Result.andThen_ok, Sem.run_pure, addr_add, nonneg_den hi.1, Int.toNat_natCast]
            · simp only [VR, stepTo_pos hps, stepTo_x]
              exact ⟨l, hl, rfl⟩
      · simp at h
    · rename_i n e p hu
      split at h
      · rename_i m hm
        cases hi : (nonneg k v && decide (v.toNat < n)) with
        | false => rw [hi] at h; simp at h
        | true =>
          rw [hi] at h
          simp only [cond_true] at h
          simp only [Bool.and_eq_true, decide_eq_true_eq] at hi
          have hd := den_lt_iff hi.1 hi.2
          have hrun : ∀ (l : Loc) (w : World), (Instr.indexAt t (.pointer (some (l.addr p.pos))) (.int k (den k v))).run P w = .ok (.pointer (some (l.addr (p.pos + v.toNat * m)))) w := by
            intro l w
            simp only [Instr.indexAt, Sem.run_bind, asIntOf, Sem.run_pure, Result.andThen_ok, run_underlying hu, run_sizeOf hm, Instr.sureAddr]
            rw [if_pos hd]
            simp only [Sem.run_bind, run_sizeOf hm, Result.andThen_ok, Sem.run_pure, addr_add, nonneg_den hi.1, Int.toNat_natCast]
          split at h
          · rename_i hz
            split at h
            · rename_i c s hsh
              cases hc : Nat.beq (s.length + 1) m with
              | false => rw [hc] at h; simp at h
              | true =>
                rw [hc] at h
                simp only [cond_true] at h
                rw [beq_true] at hc
                refine ⟨_, h, fun ρ w x' ix' hx hix => ?_⟩
                simp only [VR] at hix; subst hix
                simp only [VR] at hx
                obtain ⟨l, hl, rfl⟩ := hx
                refine ⟨_, hrun l w, ?_⟩
                simp only [VR]
                refine ⟨l, hl, ?_⟩
                rw [AP.pos0 hz]
                have : (⟨p.x, p.off, v.toNat, (c :: s).length, p.j⟩ : AP).pos = p.off + p.j + v.toNat * m := by simp only [AP.pos, List.length_cons, hc]; omega
                rw [this]
            · refine ⟨_, h, fun ρ w x' ix' hx hix => ?_⟩
              simp only [VR] at hix; subst hix
              simp only [VR] at hx
              obtain ⟨l, hl, rfl⟩ := hx
              refine ⟨_, hrun l w, ?_⟩
              simp only [VR]
              refine ⟨l, hl, ?_⟩
              rw [AP.pos0 hz, AP.pos0 (by simpa using hz)]
              have : p.off + v.toNat * m + p.j = p.off + p.j + v.toNat * m := by omega
              simp only [this]
          · rename_i s hz
            refine ⟨_, h, fun ρ w x' ix' hx hix => ?_⟩
            simp only [VR] at hix; subst hix
            simp only [VR] at hx
            obtain ⟨l, hl, rfl⟩ := hx
            refine ⟨_, hrun l w, ?_⟩
            simp only [VR]
            refine ⟨l, hl, ?_⟩
            simp only [AP.pos]; congr 3; omega
      · simp at h
    · simp at h
  · simp at h

theorem indexA_sound {t : TypeId} {x ix : AV} {K : AV → Option R} (h : indexA P t x ix K = some r) : ∃ v, K v = some r ∧ ∀ (ρ : Env) (w : World) (x' ix' : Value), VR ρ x x' → VR ρ ix ix' → ∃ z, (Instr.index t x' ix').run P w = .ok z w ∧ VR ρ v z := by
  unfold indexA at h
  split at h
  · rename_i k v n e cs hu
    split at h
    · rename_i m hm
      cases hi : (nonneg k v && decide (v.toNat < n)) with
      | false => rw [hi] at h; simp at h
      | true =>
        rw [hi] at h
        simp only [cond_true] at h
        simp only [Bool.and_eq_true, decide_eq_true_eq] at hi
        have hd := den_lt_iff hi.1 hi.2
        unfold cutA at h
        cases hc : Nat.beq ((cs.drop (v.toNat * m)).take m).length m with
        | false => rw [hc] at h; simp at h
        | true =>
          rw [hc] at h
          simp only [cond_true] at h
          rw [beq_true] at hc
          obtain ⟨u, hv, hall⟩ := aggOr_part hm h hc
          refine ⟨u, hv, fun ρ w x' ix' hx hix => ?_⟩
          simp only [VR] at hix hx; subst hix
          obtain ⟨a, rfl, ha⟩ := hx
          obtain ⟨y, hy, hr⟩ := hall ρ w a (v.toNat * m) (VRs_take m (VRs_drop (v.toNat * m) ha))
          refine ⟨y, ?_, hr⟩
          simp only [Instr.index, Sem.run_bind, asIntOf, Sem.run_pure, Result.andThen_ok, run_underlying hu]
          rw [if_pos hd]
          simp only [Sem.run_bind, run_sizeOf hm, Result.andThen_ok, nonneg_den hi.1, Int.toNat_natCast, hy]
    · simp at h
  · rename_i k v b hu
    cases hi : (nonneg k v && decide (v.toNat < b.size)) with
    | false => rw [hi] at h; simp at h
    | true =>
      rw [hi] at h
      simp only [cond_true] at h
      simp only [Bool.and_eq_true, decide_eq_true_eq] at hi
      have hd := den_lt_iff hi.1 hi.2
      refine ⟨_, h, fun ρ w x' ix' hx hix => ?_⟩
      simp only [VR] at hix hx; subst hix; subst hx
      refine ⟨.int .u8 (den .u8 (byteAt b v.toNat)), ?_, by simp only [VR]⟩
      simp only [Instr.index, Sem.run_bind, asIntOf, Sem.run_pure, Result.andThen_ok, run_underlying hu]
      rw [if_pos hd.1, nonneg_den hi.1, Int.toNat_natCast, getElem?_pos b v.toNat hi.2]
      have hb : (byteAt b v.toNat).toNat = (b[v.toNat]'hi.2).toNat := by
        unfold byteAt
        have hl : v.toNat < b.data.toList.length := hi.2
        rw [List.getD_eq_getElem?_getD, List.getElem?_eq_getElem hl, Option.getD_some, BitVec.toNat_ofNat, Nat.mod_eq_of_lt (UInt8.toNat_lt _)]
        rfl
      show Result.ok (Value.int .u8 (((b[v.toNat]'hi.2).toNat : Nat) : Int)) w = Result.ok (Value.int .u8 (((byteAt b v.toNat).toNat : Nat) : Int)) w
      rw [hb]
  · simp at h

/-- Two operands that may be there. -/
def VRo (ρ : Env) (v : Option AV) (v' : Option Value) : Prop := (v = none ∧ v' = none) ∨ ∃ u u', v = some u ∧ v' = some u' ∧ VR ρ u u'
theorem boundA_sound {v : Option AV} {d : Nat} {K : Nat → Option R} (h : boundA v d K = some r) :
    ∃ n, K n = some r ∧ ∀ (ρ : Env) (v' : Option Value), VRo ρ v v' → ((v' = none ∧ n = d) ∨ ∃ k m, v' = some (.int k m) ∧ m = (n : Int)) := by
  unfold boundA at h
  cases v with
  | none =>
    refine ⟨d, h, fun ρ v' hv => ?_⟩
    rcases hv with ⟨_, rfl⟩ | ⟨_, _, h0, _⟩
    · exact .inl ⟨rfl, rfl⟩
    · simp at h0
  | some u =>
    cases u with
    | int k n =>
      simp only at h
      cases hn : nonneg k n with
      | false => simp [hn] at h
      | true =>
        simp only [hn, cond_true] at h
        refine ⟨_, h, fun ρ v' hv => ?_⟩
        rcases hv with ⟨h0, _⟩ | ⟨u, u', h0, rfl, hu⟩
        · simp at h0
        · simp at h0; subst h0
          simp only [VR] at hu; subst hu
          exact .inr ⟨k, _, rfl, nonneg_den hn⟩
    | _ => simp at h

theorem sliceA_sound {t : TypeId} {x : AV} {lo hi : Option AV} {K : AV → Option R} (h : sliceA P t x lo hi K = some r) :
    ∃ v, K v = some r ∧ ∀ (ρ : Env) (w : World) (x' : Value) (lo' hi' : Option Value), VR ρ x x' → VRo ρ lo lo' → VRo ρ hi hi' → ∃ z, (Instr.sliceAt t x' lo' hi' none).run P w = .ok z w ∧ VR ρ v z := by
  unfold sliceA at h
  split at h
  · rename_i e p es n hu
    split at h
    · rename_i m hm
      cases hc : (Nat.beq m es && (Nat.beq p.sz 0 || Nat.beq p.sz es)) with
      | false => rw [hc] at h; simp at h
      | true =>
        rw [hc] at h
        simp only [cond_true] at h
        simp only [Bool.and_eq_true, Bool.or_eq_true, beq_true] at hc
        obtain ⟨rfl, hps⟩ := hc
        obtain ⟨a, h, ha⟩ := boundA_sound h
        obtain ⟨b, h, hb⟩ := boundA_sound h
        cases hi : (decide (b ≤ n) && (decide (a < b) || Nat.beq a 0)) with
        | false => rw [hi] at h; simp at h
        | true =>
          rw [hi] at h
          simp only [cond_true] at h
          simp only [Bool.and_eq_true, Bool.or_eq_true, decide_eq_true_eq, beq_true] at hi
          obtain ⟨hbn, hab⟩ := hi
          have hpos : (stepTo p m a).pos = p.pos + a * m := stepTo_pos hps
          have hxx : (stepTo p m a).x = p.x := stepTo_x
          refine ⟨_, h, fun ρ w x' lo' hi' hx hlo hhi => ?_⟩
          have ha := ha ρ lo' hlo
          have hb := hb ρ hi' hhi
          simp only [VR] at hx
          obtain ⟨l, cap, hl, hcap, h63, hext, rfl⟩ := hx
          refine ⟨.slice (some (l.addr (p.pos + a * m))) (b - a) (cap - a), ?_, ?_⟩
          · have hB : (match hi' with
                | some v => Instr.sliceBound v cap .sliceAcap
                | none => pure n).run P w = .ok b w := by
              rcases hb with ⟨rfl, rfl⟩ | ⟨k, q, rfl, rfl⟩
              · rfl
              · simp only [Instr.sliceBound, asIntOf, pure_bind]
                rw [if_pos (by omega)]
                simp
            have hA : (match lo' with
                | some v => Instr.sliceBound v b .sliceB
                | none => pure 0).run P w = .ok a w := by
              rcases ha with ⟨rfl, rfl⟩ | ⟨k, q, rfl, rfl⟩
              · rfl
              · simp only [Instr.sliceBound, asIntOf, pure_bind]
                rw [if_pos (by omega)]
                simp
            have hbounds : (Instr.sliceBounds true n cap lo' hi' none).run P w = .ok (a, b, cap) w := by
              unfold Instr.sliceBounds
              cases hi' <;> cases lo' <;> simp_all
            simp only [Instr.sliceAt, Instr.slice, Sem.run_bind, run_underlying hu, Result.andThen_ok, hbounds, run_sizeOf hm, Sem.run_pure, Option.map_some, addr_add]
            congr 2
            clear hA hB hbounds ha hb
            split
            · rename_i hca
              have : a = 0 := by omega
              simp [this]
            · rfl
          · clear ha hb
            simp only [VR]
            refine ⟨l, cap - a, by rw [hxx]; exact hl, by omega, by omega, ?_, by rw [hpos]⟩
            intro hrw
            have := hext hrw
            rw [hpos, Nat.sub_mul]
            have : a * m ≤ cap * m := Nat.mul_le_mul_right _ (by omega)
            omega
    · simp at h
  · rename_i e hu
    split at h
    · rename_i m hm
      obtain ⟨a, h1, ha⟩ := boundA_sound h
      obtain ⟨b, h2, hb⟩ := boundA_sound h1
      cases hq : (Nat.beq b 0 && Nat.beq a 0) with
      | false => rw [hq] at h2; simp at h2
      | true =>
        rw [hq] at h2
        simp only [cond_true] at h2
        simp only [Bool.and_eq_true, beq_true] at hq
        obtain ⟨rfl, rfl⟩ := hq
        refine ⟨_, h2, fun ρ w x' lo' hi' hx hlo hhi => ?_⟩
        have ha := ha ρ lo' hlo
        have hb := hb ρ hi' hhi
        simp only [VR] at hx; subst hx
        refine ⟨.slice none 0 0, ?_, by simp only [VR]⟩
        have hB : (match hi' with
              | some v => Instr.sliceBound v 0 .sliceAcap
              | none => pure 0).run P w = .ok 0 w := by
          rcases hb with ⟨rfl, _⟩ | ⟨k, q, rfl, rfl⟩
          · rfl
          · simp [Instr.sliceBound, asIntOf]
        have hA : (match lo' with
              | some v => Instr.sliceBound v 0 .sliceB
              | none => pure 0).run P w = .ok 0 w := by
          rcases ha with ⟨rfl, _⟩ | ⟨k, q, rfl, rfl⟩
          · rfl
          · simp [Instr.sliceBound, asIntOf]
        have hbounds : (Instr.sliceBounds true 0 0 lo' hi' none).run P w = .ok (0, 0, 0) w := by
          unfold Instr.sliceBounds
          cases hi' <;> cases lo' <;> simp_all
        simp only [Instr.sliceAt, Instr.slice, Sem.run_bind, run_underlying hu, Result.andThen_ok, hbounds, Sem.run_pure, run_sizeOf hm]
        simp
    · simp at h
  · simp at h
end
end Go.Sx

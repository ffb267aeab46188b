/- What the executor's append answers, the machine's append answers. -/
import Derived.Test.YtaieimjeffedhaaSxI
set_option linter.unusedSimpArgs false
set_option linter.unusedVariables false
set_option linter.unnecessarySimpa false
namespace Go.Sx
open Go

section
variable {P : Program} {w : World} {ρ : Env} {R : Type} {r : R}

theorem run_zeroCells_len (z : Array Value) (n : Nat) : (Builtin.zeroCells z n).size = n * z.size := by simp [Builtin.zeroCells]

/-- append, once its operands are read: what it does where there is room, and where there is none. -/
theorem run_append {t u e : TypeId} {E : TypeDesc} {ts : Array TypeId} {ty : TypeId} {base : Option Addr} {sl cap m : Nat} {x' : Value} {n : Nat} {old new : Array Value} {i : TypeInfo} {zv : Value}
    (ht : ts[0]? = some t) (hu : ts[1]? = some u) (hut : P.underlying t = some (.slice e)) (huu : P.underlying u = some E) (hE : ∀ k, E ≠ .int k) (hm : szOf P e = some m) (hi : P.info? e = some i) (hb : 1 ≤ i.bytes) (hb2 : i.bytes ≤ 2 ^ 20)
    (hlen : (Builtin.lenOf x').run P w = .ok n w) (hnew : ∀ w' : World, w'.heap = w.heap → (Builtin.firstCells m n x').run P w' = .ok new w') (hold : ∀ w' : World, w'.heap = w.heap → (Builtin.firstCells m sl (.slice base sl cap)).run P w' = .ok old w')
    (hneed : (sl + n) * i.bytes ≤ 2 ^ 47 + 2 ^ 20) (hz : ∀ w' : World, (zeroValue e).run P w' = .ok zv w') :
    (sl + n ≤ cap → (Builtin.append_ ts ty #[.slice base sl cap, x']).run P w = match base with
      | some a => ((storeCells (a.add (sl * m)) new.toList).run P w).andThen fun _ w' => .ok (.slice base (sl + n) cap) w'
      | none => .ok (.slice base (sl + n) cap) w) ∧
    (cap < sl + n → ∃ newCap, sl + n ≤ newCap ∧ newCap < 2 ^ 63 ∧
      (Builtin.append_ ts ty #[.slice base sl cap, x']).run P w = .ok (.slice (some ⟨w.heap.size, 0, none⟩) (sl + n) newCap) (w.drew.alloc (.cells (old ++ new ++ Builtin.zeroCells zv.cells (newCap - (sl + n))) e))) := by
  have hzeros : (match E with | .int _ => true | _ => false) = false := by cases E <;> first | rfl | exact absurd rfl (hE _)
  have h63 : sl + n < 2 ^ 63 := by
    have : sl + n ≤ (sl + n) * i.bytes := Nat.le_mul_of_pos_right _ hb
    omega
  constructor
  · intro hroom
    simp only [Builtin.append_, ht, hu]
    simp only [List.getElem?_toArray, List.getElem?_cons_zero, List.getElem?_cons_succ, Sem.run_bind, run_underlying hut, Result.andThen_ok, run_sizeOf hm, run_underlying huu, Sem.run_pure, hzeros, Bool.false_eq_true, if_false, hlen]
    rw [if_pos hroom]
    simp only [Bool.not_false, if_true, Sem.run_bind, hnew w rfl, Result.andThen_ok]
    cases base with
    | none => simp
    | some a => simp only [Sem.run_bind, Sem.run_pure]
  · intro hno
    refine ⟨(Question.appendCap (sl + n) cap e).cut (w.tape w.drawn (.appendCap (sl + n) cap e)), ?_, ?_, ?_⟩
    · simp [Question.cut]
    · simp only [Question.cut]
      have := Nat.mod_lt (w.tape w.drawn (.appendCap (sl + n) cap e)) (show 0 < 2 ^ 63 - (sl + n) by omega)
      omega
    · simp only [Builtin.append_, ht, hu]
      simp only [List.getElem?_toArray, List.getElem?_cons_zero, List.getElem?_cons_succ, Sem.run_bind, run_underlying hut, Result.andThen_ok, run_sizeOf hm, run_underlying huu, Sem.run_pure, hzeros, Bool.false_eq_true, if_false, hlen]
      rw [if_neg (by omega)]
      simp only [Sem.run_bind, run_typeInfo hi, Result.andThen_ok]
      rw [if_neg (by rintro ⟨_, h | h⟩
                     · simp at h
                     · omega)]
      simp only [Sem.run_pure, Result.andThen_ok, run_typeInfo hi, Sem.run_bind]
      rw [if_neg (by have := nextcap_le hno hb2 hneed; omega)]
      have hforced : (Question.appendCap (sl + n) cap e).forced = false := rfl
      simp only [Sem.run_pure, Result.andThen_ok, Sem.run_bind, run_choose, hforced, Bool.false_eq_true, if_false, run_typeInfo hi, run_askRoom, Bool.not_false, if_true]
      simp only [World.drew_eq]
      rw [hold w.drew rfl]
      simp only [Result.andThen_ok]
      rw [hnew w.drew rfl]
      simp only [Result.andThen_ok, Sem.run_bind, hz, newRow, run_newObj, Sem.run_pure, World.alloc_eq]
      rfl

theorem Inv.same {H : Heap} {w' : World} (hi : Inv ρ H w) (h : w'.heap = w.heap) : Inv ρ H w' := by
  constructor
  · intro x b hx
    obtain ⟨l, hl, hb⟩ := hi.blk x b hx
    exact ⟨l, hl, hb.mono (fun _ _ h => h) (by rw [h])⟩
  · exact hi.inj

theorem appendA_sound {t u : TypeId} {E : TypeDesc} {ts : Array TypeId} {ty : TypeId} (ht : ts[0]? = some t) (hu : ts[1]? = some u) (huu : P.underlying u = some E) (hE : ∀ k, E ≠ .int k)
    {H : Heap} {s x : AV} {N : Nat} {K : AV → Eff → Nat → Option R} (h : appendA P t H s x N K = some r) :
    ∃ v e N', K v e N' = some r ∧ N ≤ N' ∧ ∀ ρ w s' x', VR ρ s s' → VR ρ x x' → Inv ρ H w → Fresh ρ N N' →
      ∃ z w', (Builtin.append_ ts ty #[s', x']).run P w = .ok z w' ∧ Post ρ H N w e N' v z w' := by
  unfold appendA at h
  split at h
  · rename_i e hut
    split at h
    · split at h
      · rename_i m hm
        refine ⟨_, _, _, h, Nat.le_refl _, fun ρ w s' x' hs hx hinv hf => ?_⟩
        simp only [VR] at hs hx; subst hs; subst hx
        refine ⟨.slice none 0 0, w, ?_, Post.same hinv (by simp only [VR])⟩
        have hzeros : (match E with | .int _ => true | _ => false) = false := by cases E <;> first | rfl | exact absurd rfl (hE _)
        simp only [Builtin.append_, ht, hu]
        simp only [List.getElem?_toArray, List.getElem?_cons_zero, List.getElem?_cons_succ, Sem.run_bind, run_underlying hut, Result.andThen_ok, run_sizeOf hm, run_underlying huu, Sem.run_pure, hzeros, Bool.false_eq_true, if_false, Builtin.lenOf]
        simp [Builtin.firstCells]
      · rename_i p es n m hm
        refine ⟨_, _, _, h, Nat.le_refl _, fun ρ w s' x' hs hx hinv hf => ?_⟩
        have hs0 := hs
        simp only [VR] at hs hx; subst hx
        obtain ⟨l, cap, hl, hcap, h63, hext, rfl⟩ := hs
        refine ⟨.slice (some (l.addr p.pos)) n cap, w, ?_, Post.same hinv hs0⟩
        have hzeros : (match E with | .int _ => true | _ => false) = false := by cases E <;> first | rfl | exact absurd rfl (hE _)
        simp only [Builtin.append_, ht, hu]
        simp only [List.getElem?_toArray, List.getElem?_cons_zero, List.getElem?_cons_succ, Sem.run_bind, run_underlying hut, Result.andThen_ok, run_sizeOf hm, run_underlying huu, Sem.run_pure, hzeros, Bool.false_eq_true, if_false, Builtin.lenOf]
        simp [Builtin.firstCells, hcap, storeCells]
      · simp at h
    · split at h
      · rename_i c sh m i z hsh hm hi hz
        cases hc : (Nat.beq m (sh.length + 1) && Nat.ble 1 i.bytes && Nat.ble i.bytes (2 ^ 20) && Nat.beq z.length m && allCells z) with
        | false => rw [hc] at h; simp at h
        | true =>
          rw [hc] at h
          simp only [cond_true] at h
          simp only [Bool.and_eq_true, beq_true, ble_true] at hc
          obtain ⟨⟨⟨⟨hml, hb1⟩, hb2⟩, hzl⟩, hcells⟩ := hc
          split at h
          · rename_i a b ha hb how
            cases hd : (decide (1 ≤ b.length) && decide ((a.length + b.length) * i.bytes ≤ 2 ^ 47 + 2 ^ 20)) with
            | false => rw [hd] at h; simp at h
            | true =>
              rw [hd] at h
              simp only [cond_true] at h
              simp only [Bool.and_eq_true, decide_eq_true_eq] at hd
              obtain ⟨hbl, hneed⟩ := hd
              refine ⟨_, _, _, h, by omega, fun ρ w s' x' hs hx hinv hf => ?_⟩
              have hshl : (c :: sh).length = m := by simp [hml]
              have hpos : 0 < (c :: sh).length := by simp
              have hsame : ∀ w' : World, w'.heap = w.heap → Inv ρ H w' := fun w' h => hinv.same h
              obtain ⟨hla, ysa, hya, hra, hca⟩ := rowsOf_sound (P := P) ha hpos hs hinv
              obtain ⟨hlb, ysb, hyb, hrb, _⟩ := rowsOf_sound (P := P) hb hpos hx hinv
              rw [hshl] at hya hyb
              have hzv : ∃ zv, (∀ w' : World, (zeroValue e).run P w' = .ok zv w') ∧ zv.cells.size = m := by
                obtain ⟨zv, hzv, hzr⟩ := zeroA_sound (w := w) (ρ := ρ) hz hcells
                unfold zeroA at hz
                rw [hi] at hz
                cases hzz : i.zero with
                | none => simp [hzz] at hz
                | some zz =>
                  have e1 : ∀ w' : World, (zeroValue e).run P w' = .ok zz w' := fun w' => by simp [zeroValue, run_typeInfo hi, hzz]
                  have : zv = zz := by have := e1 w; rw [hzv] at this; simp at this; exact this
                  subst this
                  exact ⟨zv, e1, by have := VRs_length hzr; simp at this; omega⟩
              obtain ⟨zv, hzrun, hzs⟩ := hzv
              have hysa : ysa.toList.length = a.length * m := by have := VRs_length hra; rw [arrFlat_length, hshl] at this; exact this.symm
              have hysb : ysb.toList.length = b.length * m := by have := VRs_length hrb; rw [arrFlat_length, hshl] at this; exact this.symm
              have hflat : flat [.arr (c :: sh) (a.length + b.length) (a ++ b)] = arrFlat (c :: sh) a.length a ++ arrFlat (c :: sh) b.length b := by
                simp only [flat, List.append_nil, arrFlat_append]
              have hvr : VRs ρ (flat [.arr (c :: sh) (a.length + b.length) (a ++ b)]) (ysa.toList ++ ysb.toList) := by rw [hflat]; exact VRs_append hra hrb
              -- a new block
              have grow : ∀ (base : Option Addr) (cap : Nat), s' = .slice base a.length cap → cap < a.length + b.length → ∃ z w', (Builtin.append_ ts ty #[s', x']).run P w = .ok z w' ∧
                  ∀ H0 : Heap, Inv ρ H0 w → ∃ ρ', Step ρ H0 N w ρ' (H0.put N ⟨true, [.arr (c :: sh) (a.length + b.length) (a ++ b)]⟩) (N + 1) w' ∧ VR ρ' (.slice ⟨N, 0, 0, m, 0⟩ m (a.length + b.length)) z := by
                rintro base cap rfl hcap
                obtain ⟨_, hg⟩ := run_append (w := w) (ty := ty) (base := base) (sl := a.length) (cap := cap) ht hu hut huu hE hm hi hb1 hb2 hlb hyb hya hneed hzrun
                obtain ⟨newCap, hc1, hc2, hrun⟩ := hg hcap
                refine ⟨_, _, hrun, fun H0 hinv0 => ?_⟩
                refine ⟨_, (Step.drew hinv0).trans (step_new (ys := ysa.toList ++ ysb.toList) (hinv0.drew) (hf N (Nat.le_refl _) (by omega)) hvr ?_) (Nat.le_refl _) (by omega), ?_⟩
                · intro j y hj
                  rw [← Array.getElem?_toList, Array.toList_append, Array.toList_append, List.getElem?_append_left]
                  · exact hj
                  · have := (List.getElem?_eq_some_iff.1 hj).1
                    simpa using this
                · simp only [VR]
                  refine ⟨_, newCap, Env.add_self, hc1, hc2, fun _ => ?_, by simp [Loc.addr, AP.pos]⟩
                  have e1 : ysa.size = a.length * m := by simpa using hysa
                  have e2 : ysb.size = b.length * m := by simpa using hysb
                  simp only [AP.pos, Array.size_append, run_zeroCells_len, hzs, e1, e2]
                  rw [← Nat.add_mul, ← Nat.add_mul, show a.length + b.length + (newCap - (a.length + b.length)) = newCap by omega]
                  omega
              cases s <;> simp only [rowsOf, reduceCtorEq] at ha
              case nilslice =>
                simp only [VR] at hs; subst hs
                simp at ha; subst ha
                obtain ⟨z, w', hrun, hp⟩ := grow none 0 rfl (by simp; omega)
                exact ⟨z, w', hrun, hp H hinv⟩
              case slice p es n =>
                obtain ⟨hn, hcell⟩ := hca p es n rfl
                simp only [VR] at hs
                obtain ⟨l, cap, hl, hcap, h63, hext, rfl⟩ := hs
                unfold ownsA at how
                cases hbk : H.find p.x with
                | none => simp [hbk] at how
                | some bk =>
                  simp only [hbk, Bool.and_eq_true, beq_true] at how
                  obtain ⟨hbrw, rfl⟩ := how
                  obtain ⟨l', hl', cc, ee, fr, h1, h2, h3, h4⟩ := hinv.blk p.x bk hbk
                  rw [hl] at hl'; simp at hl'; subst hl'
                  obtain ⟨rfl, hex⟩ := h3 hbrw
                  have hrw : l.rw = true := by rw [h2, hbrw]
                  have hext' := hext hrw
                  rw [hex] at hext'
                  rcases Nat.lt_or_ge cap (a.length + b.length) with hcap2 | hcap2
                  · obtain ⟨z, w', hrun, hp⟩ := grow (some (l.addr p.pos)) cap (by rw [hn]) hcap2
                    obtain ⟨ρ', hst, hvr'⟩ := hp (H.del p.x) (hinv.del p.x)
                    exact ⟨z, w', hrun, ρ', (step_del hinv p.x).trans hst (Nat.le_refl _) (by omega), hvr'⟩
                  · obtain ⟨hr, _⟩ := run_append (w := w) (ty := ty) (base := some (l.addr p.pos)) (sl := a.length) (cap := cap) ht hu hut huu hE hm hi hb1 hb2 hlb hyb (by rw [hn]; rw [hn] at hya; exact hya) hneed hzrun
                    have hr := hr hcap2
                    have hle : a.length * es + b.length * es ≤ cap * es := by rw [← Nat.add_mul]; exact Nat.mul_le_mul_right _ hcap2
                    have hone : ∀ y ∈ ysb.toList, y.oneCell' = true := VRs_oneCell (arrFlat_allCells _ _ _) hrb
                    have hst := run_storeCells (P := P) ysb.toList w l.b cc ee (l.o + (p.pos + a.length * es)) 0 h1 hone (by rw [hysb]; omega)
                    simp only [addr_add] at hr
                    have hst' : (storeCells (l.addr (p.pos + a.length * es)) ysb.toList).run P w = .ok () { w with heap := w.heap.setIfInBounds l.b (.cells (writeC cc (l.o + (p.pos + a.length * es)) ysb.toList) ee (0, 0)) } := hst
                    rw [hst'] at hr
                    simp only [Result.andThen_ok] at hr
                    refine ⟨_, _, by rw [← hn]; exact hr, _, step_move (o := l.o + p.pos) (ys := ysa.toList ++ ysb.toList) hinv (hf N (Nat.le_refl _) (by omega)) hbk hl hrw h1 (writeC_size _ _ _) hvr ?_, ?_⟩
                    · intro j y hj
                      rw [writeC_get _ _ _ _ (by rw [hysb]; omega)]
                      rcases Nat.lt_or_ge j (a.length * es) with hj2 | hj2
                      · rw [if_neg (by omega)]
                        rw [List.getElem?_append_left (by omega)] at hj
                        have := hcell l hl j y hj
                        rw [show l.addr (p.pos + j) = ⟨l.b, l.o + p.pos + j, none⟩ by simp [Loc.addr, Nat.add_assoc]] at this
                        rw [cell_of h1] at this
                        exact this
                      · rw [List.getElem?_append_right (by omega), hysa] at hj
                        have hlt := (List.getElem?_eq_some_iff.1 hj).1
                        rw [if_pos (by omega)]
                        rw [show l.o + p.pos + j - (l.o + (p.pos + a.length * es)) = j - a.length * es by omega]
                        exact hj
                    · simp only [VR]
                      refine ⟨_, cap, Env.add_self, hcap2, h63, fun _ => ?_, by simp [Loc.addr, AP.pos]⟩
                      show l.o + p.pos + (0 + 0 * es + 0) + cap * es ≤ cc.size
                      omega
          · simp at h
      · simp at h
  · simp at h
end
end Go.Sx

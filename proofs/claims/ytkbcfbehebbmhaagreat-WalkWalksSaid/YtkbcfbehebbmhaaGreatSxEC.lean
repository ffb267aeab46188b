/- Entries of functions over memory that go on in several ways. -/
import Derived.Test.YtkbcfbehebbmhaaGreatSxX
set_option linter.unusedSimpArgs false
set_option linter.unusedVariables false
set_option linter.unnecessarySimpa false
namespace Go.Sx
open Go
/-- What an entry tells, and how it goes on. -/
abbrev ECps (α β : Type) := (R : Type) → α → (β → Option R) → Option R
def ECok {α β : Type} (step : α → Option β) (cps : ECps α β) : Prop := ∀ (R : Type) (x : α) (K : β → Option R) (r : R), cps R x K = some r → ∃ z, step x = some z ∧ K z = some r
def ecGo {R : Type} (xs : List Nat) (N : Nat) (K : AV → Eff → Nat → Option R) (q : AV × Eff × Nat) : Option R :=
  bif Nat.ble xs.length q.2.2 && belowB q.2.2 (namesOf q.2.1) then K (q.1.ren (mapN xs N)) (renE (mapN xs N) q.2.1) (Nat.add N (Nat.sub q.2.2 xs.length)) else none
def elC {α β : Type} (g : Nat) (dec : List AV → Heap → Option α) (cps : ECps α β) (enc : β → AV × Eff × Nat) (C : Oracle) : Oracle := fun R g' args H N K =>
  bif Nat.beq g' g then
    let xs := liveGo 0 H 400 (AV.namesL args) []
    bif nodupB xs && allIn xs (AV.namesL args) && belowB N xs then
      match takeH H xs xs 0 with
      | some Hc => match dec (AV.renL (fun n => posN n xs) args) Hc with
        | some x => bif Nat.beq Hc.length xs.length then cps R x (fun z => ecGo xs N K (enc z))
          else C R g' args H N K
        | none => C R g' args H N K
      | none => C R g' args H N K
    else C R g' args H N K
  else C R g' args H N K
theorem elC_snd {P : Program} {C D : Oracle} {F : Cfg} {g : FuncId} {fn : Func} {α β : Type} (L : EL P C F fn α β) (hC : Snd P C) (hfn : P.funcs[g]? = some fn) (hname : (fn.name == "runtime.NumGoroutine") = false) {cps : ECps α β}
    (hc : ECok L.step cps) (hD : Snd P D) (hF : FOK P fn F := by first | exact fok_nil rfl | assumption) : Snd P (elC g L.dec cps L.enc D) := by
  intro R g' args H N K r h
  unfold elC at h
  cases hg : Nat.beq g' g with
  | false => rw [hg] at h; exact hD R g' args H N K r h
  | true =>
    rw [hg] at h
    have hg' : g' = g := Nat.eq_of_beq_eq_true hg
    subst hg'
    simp only [cond_true] at h
    generalize liveGo 0 H 400 (AV.namesL args) [] = xs at h
    cases hq : (nodupB xs && allIn xs (AV.namesL args) && belowB N xs) with
    | false => rw [hq] at h; exact hD R _ args H N K r h
    | true =>
      rw [hq] at h
      simp only [cond_true] at h
      simp only [Bool.and_eq_true] at hq
      obtain ⟨⟨hnd, hal⟩, hbl⟩ := hq
      cases ht : takeH H xs xs 0 with
      | none => rw [ht] at h; exact hD R _ args H N K r h
      | some Hc =>
        rw [ht] at h
        dsimp only at h
        cases hx : L.dec (AV.renL (fun n => posN n xs) args) Hc with
        | none => rw [hx] at h; exact hD R _ args H N K r h
        | some x =>
          rw [hx] at h
          dsimp only at h
          cases hlen : Nat.beq Hc.length xs.length with
          | false => rw [hlen] at h; exact hD R _ args H N K r h
          | true =>
          rw [hlen] at h
          simp only [cond_true] at h
          rw [beq_true] at hlen
          obtain ⟨z, hz, hk0⟩ := hc R x _ r h
          obtain ⟨d1, d2⟩ := L.dec_ok _ _ _ hx
          have hr := L.hstep x
          rw [hz, ← d1, ← d2, hlen] at hr
          obtain ⟨v, e, k', hk1, hle, hans⟩ := inlineA_sound hC hfn hF hname hr
          have he := L.decR_ok _ _ _ _ hk1
          rw [← he] at hk0
          unfold ecGo at hk0
          dsimp only at hk0
          cases hk : (Nat.ble xs.length k' && belowB k' (namesOf e)) with
          | false => rw [hk] at hk0; simp at hk0
          | true =>
            rw [hk] at hk0
            simp only [cond_true] at hk0
            simp only [Bool.and_eq_true] at hk
            obtain ⟨t1, t2, t3⟩ := takeH_spec ht (fun j hj => by simp)
            have hlt := belowB_iff hbl
            have hback : ∀ n ∈ xs, mapN xs N (posN n xs) = n := fun n hn => by
              have := mapN_lt (N := N) (posN_lt hn).1
              rw [(posN_lt hn).2] at this; simp at this; exact this.symm
            have hin := allIn_iff hal
            have hkk := ble_true.1 hk.1
            refine ⟨_, _, _, hk0, Nat.le_add_right _ _, ?_⟩
            have key := ans_ren (xs := xs) (N := N) hans hkk hnd hlt
              (fun n hn => by obtain ⟨m, hm, rfl⟩ := namesL_ren args n hn; exact (posN_lt (hin m hm)).1)
              (fun x b hx => by
                obtain ⟨_, q2, x', b0, _, _, rfl, q6⟩ := t3 x b hx
                refine ⟨by omega, fun n hn => ?_⟩
                obtain ⟨m, hm, rfl⟩ := segNames_ren b0.segs n hn
                exact (posN_lt (q6 m hm)).1)
              (fun x hx => ⟨belowB_iff hk.2 x hx, fun hx2 => by have := t2 x hx2; rwa [Nat.zero_add] at this⟩)
              (H := H) (fun y b hy => by
                have inj := mapN_inj (N := N) hnd hlt
                have tw := twin_ren inj Hc
                obtain ⟨j, rfl⟩ := tw.2 y b hy
                rw [tw.1] at hy
                cases hq : Hc.find j with
                | none => rw [hq] at hy; simp at hy
                | some b1 =>
                  rw [hq] at hy; simp at hy; subst hy
                  obtain ⟨_, q2, x, b0, q3, q4, rfl, q6⟩ := t3 j b1 hq
                  have hjx : mapN xs N j = x := by
                    have := mapN_lt (N := N) (i := j) (xs := xs) (by omega)
                    rw [q3] at this; simp at this; exact this.symm
                  rw [hjx, q4]
                  simp only [blkRen]
                  rw [segRen_back b0.segs (fun n hn => hback n (q6 n hn))])
            rw [renL_back args (fun n hn => hback n (hin n hn))] at key
            exact key
/-! ### a block that is not answered -/
def noneH : Handler := fun _ _ _ _ _ => none
theorem noneH_snd {P : Program} {nt : Nat} {c : Code} : HSnd P nt c noneH := fun _ _ _ _ _ _ h => by simp [noneH] at h
/-! ### a call, parted by a number among its arguments; others go another way -/
def splitG {R : Type} (C D : Oracle) (g i : Nat) (args : List AV) (cx : BitVec 64) (H : Heap) (N : Nat) (K : AV → Eff → Nat → Option R) : List (BitVec 64) → Option R
  | [] => D R g args H N K
  | c :: l => cond (cx == c) (C R g (args.set i (.int .i64 c)) H N K) (splitG C D g i args cx H N K l)
def splitF (g i : Nat) (lits : List (BitVec 64)) (C D : Oracle) : Oracle := fun R g' args H N K =>
  bif Nat.beq g' g then match args[i]? with
    | some (.int .i64 cx) => splitG C D g i args cx H N K lits
    | _ => C R g' args H N K
  else C R g' args H N K
theorem splitG_eq {R : Type} {C D : Oracle} {g i : Nat} {args : List AV} {cx : BitVec 64} {H : Heap} {N : Nat} {K : AV → Eff → Nat → Option R} {r : R} (hx : args[i]? = some (.int .i64 cx)) : ∀ l, splitG C D g i args cx H N K l = some r → C R g args H N K = some r ∨ D R g args H N K = some r
  | [], h => .inr h
  | c :: l, h => by
    simp only [splitG] at h
    cases hc : (cx == c) with
    | false => rw [hc] at h; exact splitG_eq hx l h
    | true =>
      rw [hc] at h
      simp only [beq_iff_eq] at hc
      subst hc
      have e : args.set i (.int .i64 cx) = args := by
        apply List.ext_getElem?
        intro j
        rw [List.getElem?_set]
        split
        · rename_i hj
          subst hj
          split
          · exact hx.symm
          · rename_i hlt; rw [List.getElem?_eq_none (by omega)] at hx; simp at hx
        · rfl
      rw [e] at h; exact .inl h
theorem splitF_snd {P : Program} {g i : Nat} {lits : List (BitVec 64)} {C D : Oracle} (hC : Snd P C) (hD : Snd P D) : Snd P (splitF g i lits C D) := by
  intro R g' args H N K r h
  unfold splitF at h
  cases hg : Nat.beq g' g with
  | false => rw [hg] at h; exact hC R g' args H N K r h
  | true =>
    rw [hg] at h
    obtain rfl : g' = g := Nat.eq_of_beq_eq_true hg
    simp only [cond_true] at h
    split at h
    · rename_i cx hx
      rcases splitG_eq hx lits h with h | h
      · exact hC R _ args H N K r h
      · exact hD R _ args H N K r h
    · exact hC R _ args H N K r h
/-! ### one or the other -/
def orO {α : Type} (a b : Option α) : Option α := match a with
  | some x => some x
  | none => b
theorem orO_some {α : Type} {a b : Option α} {x : α} (h : orO a b = some x) : a = some x ∨ b = some x := by
  unfold orO at h
  split at h
  · exact .inl h
  · exact .inr h
end Go.Sx

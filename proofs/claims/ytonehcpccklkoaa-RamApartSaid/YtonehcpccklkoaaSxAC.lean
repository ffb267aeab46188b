/- A function's answers by a law of values and of the memory that its arguments tell of (names from nought on). -/
import Derived.Test.YtonehcpccklkoaaSxAB
set_option linter.unusedSimpArgs false
set_option linter.unusedVariables false
set_option linter.unnecessarySimpa false
namespace Go.Sx
open Go

mutual
theorem names_ren {f : Nat → Nat} : ∀ (v : AV) (n : Nat), n ∈ (v.ren f).names → ∃ m ∈ v.names, n = f m
  | .any, n, h => by simp [AV.ren, AV.names] at h
  | .bool _, n, h => by simp [AV.ren, AV.names] at h
  | .int _ _, n, h => by simp [AV.ren, AV.names] at h
  | .ptr p, n, h => by simp [AV.ren, AV.names] at h ⊢; exact h
  | .nilptr, n, h => by simp [AV.ren, AV.names] at h
  | .slice p _ _, n, h => by simp [AV.ren, AV.names] at h ⊢; exact h
  | .nilslice, n, h => by simp [AV.ren, AV.names] at h
  | .func _ a c, n, h => by
    simp only [AV.ren, AV.names, List.mem_append] at h ⊢
    rcases h with h | h
    · obtain ⟨m, hm, r⟩ := namesL_ren a n h; exact ⟨m, .inl hm, r⟩
    · obtain ⟨m, hm, r⟩ := namesL_ren c n h; exact ⟨m, .inr hm, r⟩
  | .nilfunc, n, h => by simp [AV.ren, AV.names] at h
  | .iface _ v, n, h => by simp only [AV.ren, AV.names] at h ⊢; exact names_ren v n h
  | .nilface, n, h => by simp [AV.ren, AV.names] at h
  | .agg l, n, h => by simp only [AV.ren, AV.names] at h ⊢; exact namesL_ren l n h
  | .tup l, n, h => by simp only [AV.ren, AV.names] at h ⊢; exact namesL_ren l n h
  | .lit _, n, h => by simp [AV.ren, AV.names] at h
theorem namesL_ren {f : Nat → Nat} : ∀ (l : List AV) (n : Nat), n ∈ AV.namesL (AV.renL f l) → ∃ m ∈ AV.namesL l, n = f m
  | [], n, h => by simp [AV.renL, AV.namesL] at h
  | v :: l, n, h => by
    simp only [AV.renL, AV.namesL, List.mem_append] at h ⊢
    rcases h with h | h
    · obtain ⟨m, hm, r⟩ := names_ren v n h; exact ⟨m, .inl hm, r⟩
    · obtain ⟨m, hm, r⟩ := namesL_ren l n h; exact ⟨m, .inr hm, r⟩
end
theorem segNames_ren {f : Nat → Nat} : ∀ (s : List Seg) (n : Nat), n ∈ segNames (segRen f s) → ∃ m ∈ segNames s, n = f m
  | [], n, h => by simp [segRen, segNames] at h
  | .cell v :: r, n, h => by
    simp only [segRen, segNames, List.mem_append] at h ⊢
    rcases h with h | h
    · obtain ⟨m, hm, q⟩ := names_ren v n h; exact ⟨m, .inl hm, q⟩
    · obtain ⟨m, hm, q⟩ := segNames_ren r n h; exact ⟨m, .inr hm, q⟩
  | .arr _ _ _ :: r, n, h => by simp only [segRen, segNames] at h ⊢; exact segNames_ren r n h

/-- The blocks of these names, named from i on. -/
def takeH (H : Heap) (xs : List Nat) : List Nat → Nat → Option Heap
  | [], _ => some []
  | x :: r, i => match H.find x with
    | some b => bif allIn xs (segNames b.segs) then match takeH H xs r (Nat.succ i) with
        | some t => some ((i, blkRen (fun n => posN n xs) b) :: t)
        | none => none
      else none
    | none => none
def belowB (N : Nat) : List Nat → Bool
  | [] => true
  | x :: l => Nat.blt x N && belowB N l
theorem belowB_iff {N : Nat} : ∀ {l : List Nat}, belowB N l = true → ∀ x ∈ l, x < N
  | [], _, x, h => by simp at h
  | y :: l, hh, x, h => by
    simp only [belowB, Bool.and_eq_true] at hh
    rcases List.mem_cons.1 h with rfl | h
    · exact blt_true.1 hh.1
    · exact belowB_iff hh.2 x h
theorem takeH_spec {H : Heap} {xs : List Nat} : ∀ {r : List Nat} {i : Nat} {Hc : Heap}, takeH H xs r i = some Hc → (∀ j, j < r.length → xs[i + j]? = r[j]?) →
    Hc.length = r.length ∧ (∀ j, j < r.length → Hc.find (i + j) ≠ none) ∧ ∀ j b, Hc.find j = some b → i ≤ j ∧ j < i + r.length ∧ ∃ x b0, xs[j]? = some x ∧ H.find x = some b0 ∧ b = blkRen (fun n => posN n xs) b0 ∧ ∀ n ∈ segNames b0.segs, n ∈ xs
  | [], i, Hc, h, _ => by
    simp only [takeH, Option.some.injEq] at h; subst h
    exact ⟨rfl, fun j hj => absurd hj (Nat.not_lt_zero _), fun j b h => by simp [Heap.find] at h⟩
  | x :: r, i, Hc, h, hx => by
    simp only [takeH] at h
    split at h
    · rename_i b hb
      cases ha : allIn xs (segNames b.segs) with
      | false => rw [ha] at h; simp at h
      | true =>
        rw [ha] at h
        simp only [cond_true] at h
        split at h
        · rename_i t ht
          simp only [Option.some.injEq] at h; subst h
          obtain ⟨h1, h2, h3⟩ := takeH_spec (i := Nat.succ i) ht (fun j hj => by
            have := hx (j + 1) (by simp; omega)
            simp only [List.getElem?_cons_succ] at this
            rw [← this, show i + (j + 1) = i.succ + j by omega])
          refine ⟨by simp [h1], fun j hj => ?_, fun j b' hj => ?_⟩
          · cases j with
            | zero => rw [show i + 0 = i from rfl, find_cons_eq]; simp
            | succ j =>
              rw [find_cons_ne _ _ (by omega), show i + (j + 1) = i.succ + j by omega]
              exact h2 j (by simp at hj; omega)
          · by_cases hij : i = j
            · subst hij
              rw [find_cons_eq] at hj
              simp only [Option.some.injEq] at hj; subst hj
              have := hx 0 (by simp)
              exact ⟨Nat.le_refl _, by simp, x, b, by simpa using this, hb, rfl, fun n hn => allIn_iff ha n hn⟩
            · rw [find_cons_ne _ _ hij] at hj
              obtain ⟨q1, q2, q3⟩ := h3 j b' hj
              exact ⟨by omega, by simp; omega, q3⟩
        · simp at h
    · simp at h

/-- One function's answers, by values and memory. -/
def stE (g : Nat) (s : List AV → Heap → Option (AV × Eff × Nat)) (C : Oracle) : Oracle := fun R g' args H N K =>
  bif Nat.beq g' g then
    let xs := liveGo 0 H 400 (AV.namesL args) []
    bif nodupB xs && allIn xs (AV.namesL args) && belowB N xs then
      match takeH H xs xs 0 with
      | some Hc => match s (AV.renL (fun n => posN n xs) args) Hc with
        | some (v, e, k') => bif Nat.ble xs.length k' && belowB k' (namesOf e) then K (v.ren (mapN xs N)) (renE (mapN xs N) e) (Nat.add N (Nat.sub k' xs.length)) else none
        | none => C R g' args H N K
      | none => C R g' args H N K
    else C R g' args H N K
  else C R g' args H N K

def StOK (P : Program) (g : FuncId) (s : List AV → Heap → Option (AV × Eff × Nat)) : Prop := ∀ args H v e k', s args H = some (v, e, k') → Ans P g args H H.length v e k'

theorem stE_snd {P : Program} {g : FuncId} {s : List AV → Heap → Option (AV × Eff × Nat)} {C : Oracle} (hs : StOK P g s) (hC : Snd P C) : Snd P (stE g s C) := by
  intro R g' args H N K r h
  unfold stE at h
  cases hg : Nat.beq g' g with
  | false => rw [hg] at h; exact hC R g' args H N K r h
  | true =>
    rw [hg] at h
    have hg' : g' = g := Nat.eq_of_beq_eq_true hg
    subst hg'
    simp only [cond_true] at h
    generalize liveGo 0 H 400 (AV.namesL args) [] = xs at h
    cases hc : (nodupB xs && allIn xs (AV.namesL args) && belowB N xs) with
    | false => rw [hc] at h; exact hC R g' args H N K r h
    | true =>
      rw [hc] at h
      simp only [cond_true] at h
      simp only [Bool.and_eq_true] at hc
      obtain ⟨⟨hnd, hal⟩, hbl⟩ := hc
      split at h
      · rename_i Hc ht
        split at h
        · rename_i v e k' hv
          cases hk : (Nat.ble xs.length k' && belowB k' (namesOf e)) with
          | false => rw [hk] at h; simp at h
          | true =>
            rw [hk] at h
            simp only [cond_true] at h
            simp only [Bool.and_eq_true] at hk
            obtain ⟨t1, t2, t3⟩ := takeH_spec ht (fun j hj => by simp)
            have hlt := belowB_iff hbl
            have hback : ∀ n ∈ xs, mapN xs N (posN n xs) = n := fun n hn => by
              have := mapN_lt (N := N) (posN_lt hn).1
              rw [(posN_lt hn).2] at this; simp at this; exact this.symm
            have hin := allIn_iff hal
            have hkk := ble_true.1 hk.1
            refine ⟨_, _, _, h, Nat.le_add_right _ _, ?_⟩
            have key := ans_ren (xs := xs) (N := N) (t1 ▸ hs _ _ _ _ _ hv) hkk hnd hlt
              (fun n hn => by obtain ⟨m, hm, rfl⟩ := namesL_ren args n hn; exact (posN_lt (hin m hm)).1)
              (fun x b hx => by
                obtain ⟨_, q2, x', b0, _, _, rfl, q6⟩ := t3 x b hx
                refine ⟨by omega, fun n hn => ?_⟩
                obtain ⟨m, hm, rfl⟩ := segNames_ren b0.segs n hn
                exact (posN_lt (q6 m hm)).1)
              (fun x hx => ⟨belowB_iff hk.2 x hx, fun hx2 => by have := t2 x hx2; rwa [Nat.zero_add] at this⟩)
              (H := H) (fun y b hy => by
                have inj := mapN_inj (N := N) hnd hlt
                have tw := twin_ren inj Hc
                obtain ⟨j, rfl⟩ := tw.2 y b hy
                rw [tw.1] at hy
                cases hq : Hc.find j with
                | none => rw [hq] at hy; simp at hy
                | some b1 =>
                  rw [hq] at hy; simp at hy; subst hy
                  obtain ⟨_, q2, x, b0, q3, q4, rfl, q6⟩ := t3 j b1 hq
                  have hjx : mapN xs N j = x := by
                    have := mapN_lt (N := N) (i := j) (xs := xs) (by omega)
                    rw [q3] at this; simp at this; exact this.symm
                  rw [hjx, q4]
                  simp only [blkRen]
                  rw [segRen_back b0.segs (fun n hn => hback n (q6 n hn))])
            rw [renL_back args (fun n hn => hback n (hin n hn))] at key
            exact key
        · exact hC R g' args H N K r h
      · exact hC R g' args H N K r h
/-- A function's run in memory of names from nought on. -/
def stRun (P : Program) (C : Oracle) (F : Cfg) (fn : Func) (args : List AV) (H : Heap) : Option (AV × Eff × Nat) := inlineA P C (drawA P) F fn args H H.length (fun v e k => some (v, e, k))
theorem stOK_of {P : Program} {C : Oracle} (hC : Snd P C) {F : Cfg} {g : FuncId} {fn : Func} (hfn : P.funcs[g]? = some fn) (hname : (fn.name == "runtime.NumGoroutine") = false) {s : List AV → Heap → Option (AV × Eff × Nat)}
    (h : ∀ args H r, s args H = some r → stRun P C F fn args H = some r) (hF : FOK P fn F := by first | exact fok_nil rfl | assumption) : StOK P g s := by
  intro args H v e k' hv
  obtain ⟨v2, e2, k2, h1, _, h3⟩ := inlineA_sound hC hfn hF hname (h args H _ hv)
  simp only [Option.some.injEq, Prod.mk.injEq] at h1
  obtain ⟨rfl, rfl, rfl⟩ := h1
  exact h3
theorem merQ {α β : Type} {c : Bool} (f : α → β) {T F : Option β} {x y : α} (hT : T = some (f x)) (hF : F = some (f y)) : cond c T F = some (f (cond c x y)) := by cases c <;> assumption
end Go.Sx

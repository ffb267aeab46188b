/- A processor's row, read; its right form. -/
import Derived.Test.YtonehcpccklkoaaSxY
set_option linter.unusedSimpArgs false
set_option linter.unusedVariables false
set_option linter.unnecessarySimpa false
namespace Go.Sx
open Go
def c00 : Cp := ⟨false, 0, 0, 0, 0, 0, 0, false, 0⟩
def decCaps : Nat → List AV → Option (List Cp × List AV)
  | 0, l => some ([], l)
  | n + 1, l => match decCp (.agg (l.take 9)) with
    | some c => match decCaps n (l.drop 9) with
      | some p => some (c :: p.1, p.2)
      | none => none
    | none => none
def decNums : Nat → List AV → Option (List (BitVec 64) × List AV)
  | 0, l => some ([], l)
  | n + 1, l => match l with
    | v :: t => match decU64 v with
      | some x => match decNums n t with
        | some p => some (x :: p.1, p.2)
        | none => none
      | none => none
    | [] => none
def decHt (v : AV) : Option Ht := match v with
  | .agg l => match decCaps 42 l with
    | some (cs, u :: t) => match decI64 u with
      | some p => match decNums 16 t with
        | some (ns, [.bool w]) => some ⟨fun i => cs.getD i c00, fun i => bif Nat.beq i 0 then p else ns.getD (Nat.sub i 1) 0, w⟩
        | _ => none
      | none => none
    | _ => none
  | _ => none
def capsOf (f : Nat → Cp) : Nat → Nat → List AV → List AV
  | 0, _, t => t
  | n + 1, i, t => .bool (f i).tag :: .int .i64 (f i).per :: .int .i64 (f i).ty :: .int .i64 (f i).mo :: .int .i64 (f i).e :: .int .i64 (f i).b :: .int .i64 (f i).t :: .bool (f i).big :: .int .u64 (f i).ad :: capsOf f n (i + 1) t
theorem capsOf_congr {f g : Nat → Cp} : ∀ {n i : Nat} {t : List AV}, (∀ m, i ≤ m → f m = g m) → capsOf f n i t = capsOf g n i t
  | 0, _, _, _ => rfl
  | n + 1, i, t, h => by simp only [capsOf]; rw [h i (Nat.le_refl _), capsOf_congr (fun m hm => h m (by omega))]
theorem capsOf_shift {f : Nat → Cp} (k : Nat) : ∀ {n i : Nat} {t : List AV}, capsOf f n (i + k) t = capsOf (fun m => f (m + k)) n i t
  | 0, _, _ => rfl
  | n + 1, i, t => by
    simp only [capsOf]
    rw [show i + k + 1 = (i + 1) + k by omega, capsOf_shift k]
theorem decCaps_ok : ∀ {n : Nat} {l : List AV} {cs : List Cp} {t : List AV}, decCaps n l = some (cs, t) → l = capsOf (fun i => cs.getD i c00) n 0 t
  | 0, l, cs, t, h => by simp [decCaps] at h; exact h.2
  | n + 1, l, cs, t, h => by
    unfold decCaps at h
    split at h
    · rename_i c hc
      split at h
      · rename_i p hp
        simp only [Option.some.injEq, Prod.mk.injEq] at h
        obtain ⟨rfl, rfl⟩ := h
        have h1 := dCp.ok _ _ hc
        have h2 := decCaps_ok hp
        have h3 : l = l.take 9 ++ l.drop 9 := (List.take_append_drop 9 l).symm
        have h4 : l.take 9 = [.bool c.tag, .int .i64 c.per, .int .i64 c.ty, .int .i64 c.mo, .int .i64 c.e, .int .i64 c.b, .int .i64 c.t, .bool c.big, .int .u64 c.ad] := by
          simpa [dCp, Cp.av] using h1
        rw [h3, h4, h2]
        simp only [capsOf, List.cons_append, List.nil_append, List.getD_cons_zero]
        rw [show (0 : Nat) + 1 = 0 + 1 from rfl, capsOf_shift 1]
        simp only [List.getD_cons_succ]
      · simp at h
    · simp at h
theorem decNums_ok : ∀ {n : Nat} {l : List AV} {ns : List (BitVec 64)} {t : List AV}, decNums n l = some (ns, t) → l = (List.range n).map (fun i => AV.int .u64 (ns.getD i 0)) ++ t
  | 0, l, ns, t, h => by simp [decNums] at h; simp [h.2]
  | n + 1, l, ns, t, h => by
    unfold decNums at h
    split at h
    · rename_i v r
      split at h
      · rename_i x hx
        split at h
        · rename_i p hp
          simp only [Option.some.injEq, Prod.mk.injEq] at h
          obtain ⟨rfl, rfl⟩ := h
          have h1 := dU64.ok _ _ hx
          have h2 := decNums_ok hp
          rw [h1, h2, List.range_succ_eq_map]
          simp [dU64]
        · simp at h
      · simp at h
    · simp at h
set_option maxRecDepth 100000 in
theorem decHt_ok (v : AV) (h : Ht) (hd : decHt v = some h) : v = h.av := by
  unfold decHt at hd
  split at hd
  · rename_i l
    split at hd
    · rename_i cs u t hc
      split at hd
      · rename_i p hp
        split at hd
        · rename_i ns w hn
          simp only [Option.some.injEq] at hd
          subst hd
          have h1 := decCaps_ok hc
          have h2 := dI64.ok _ _ hp
          have h3 := decNums_ok hn
          subst h1
          subst h2
          subst h3
          rfl
        · simp at hd
      · simp at hd
    · simp at hd
  · simp at hd
def dHt : Dec Ht := ⟨decHt, Ht.av, decHt_ok, Ht.names⟩
end Go.Sx

/- A processor in memory: its block's parts, read. -/
import Derived.Test.YtonehcpccklkoaaSxHart
import Derived.Test.YtonehcpccklkoaaSxAC
set_option linter.unusedSimpArgs false
set_option linter.unusedVariables false
set_option linter.unnecessarySimpa false
namespace Go.Sx
open Go
def capSh : List CK := [.bool, .int .i64, .int .i64, .int .i64, .int .i64, .int .i64, .int .i64, .bool, .int .u64]
def rowsC (f : Nat → Cp) : Nat → Nat → List (List AV)
  | 0, _ => []
  | n + 1, i => [.bool (f i).tag, .int .i64 (f i).per, .int .i64 (f i).ty, .int .i64 (f i).mo, .int .i64 (f i).e, .int .i64 (f i).b, .int .i64 (f i).t, .bool (f i).big, .int .u64 (f i).ad] :: rowsC f n (i + 1)
def cellSegs : List AV → List Seg
  | [] => []
  | v :: l => .cell v :: cellSegs l
def uncell : List Seg → Option (List AV)
  | [] => some []
  | .cell v :: r => match uncell r with
    | some l => some (v :: l)
    | none => none
  | _ :: _ => none
theorem uncell_ok : ∀ {s : List Seg} {l : List AV}, uncell s = some l → s = cellSegs l
  | [], l, h => by simp [uncell] at h; subst h; rfl
  | .cell v :: r, l, h => by
    unfold uncell at h
    split at h
    · rename_i l' hl
      simp only [Option.some.injEq] at h; subst h
      rw [uncell_ok hl]; rfl
    · simp at h
  | .arr _ _ _ :: r, l, h => by simp [uncell] at h
def decRows : List (List AV) → Option (List Cp)
  | [] => some []
  | r :: d => match decCp (.agg r) with
    | some c => match decRows d with
      | some l => some (c :: l)
      | none => none
    | none => none
theorem rowsC_congr {f g : Nat → Cp} : ∀ {n i : Nat}, (∀ m, i ≤ m → m < i + n → f m = g m) → rowsC f n i = rowsC g n i
  | 0, _, _ => rfl
  | n + 1, i, h => by simp only [rowsC]; rw [h i (Nat.le_refl _) (by omega), rowsC_congr (fun m hm hm2 => h m (by omega) (by omega))]
theorem rowsC_shift {f : Nat → Cp} : ∀ {n i : Nat}, rowsC f n (i + 1) = rowsC (fun m => f (m + 1)) n i
  | 0, _ => rfl
  | n + 1, i => by simp only [rowsC]; rw [rowsC_shift]
theorem decRows_ok : ∀ {d : List (List AV)} {cs : List Cp}, decRows d = some cs → d = rowsC (fun i => cs.getD i c00) cs.length 0
  | [], cs, h => by simp [decRows] at h; subst h; rfl
  | r :: d, cs, h => by
    unfold decRows at h
    split at h
    · rename_i c hc
      split at h
      · rename_i l hl
        simp only [Option.some.injEq] at h; subst h
        have h1 := dCp.ok _ _ hc
        have h2 : r = [.bool c.tag, .int .i64 c.per, .int .i64 c.ty, .int .i64 c.mo, .int .i64 c.e, .int .i64 c.b, .int .i64 c.t, .bool c.big, .int .u64 c.ad] := by simpa [dCp, Cp.av] using h1
        rw [h2, decRows_ok hl]
        simp only [List.length_cons, rowsC, List.getD_cons_zero]
        rw [rowsC_shift]
        simp only [List.getD_cons_succ]
      · simp at h
    · simp at h
/-- A processor's block. -/
def Ht.segs (h : Ht) : List Seg := .arr capSh 32 (rowsC h.c 32 0) :: cellSegs (capsOf h.c 10 32 (.int .i64 (h.e 0) :: ((List.range 16).map (fun i => AV.int .u64 (h.e (i + 1))) ++ [.bool h.w])))
def decHtS (s : List Seg) : Option Ht := match s with
  | .arr sh n d :: r => bif decide (sh = capSh) && Nat.beq n 32 then match decRows d, uncell r with
    | some cs, some l => bif Nat.beq cs.length 32 then match decCaps 10 l with
      | some (cs2, u :: t) => match decI64 u with
        | some p => match decNums 16 t with
          | some (ns, [.bool w]) => some ⟨fun i => bif Nat.blt i 32 then cs.getD i c00 else cs2.getD (Nat.sub i 32) c00, fun i => bif Nat.beq i 0 then p else ns.getD (Nat.sub i 1) 0, w⟩
          | _ => none
        | none => none
      | _ => none
      else none
    | _, _ => none
    else none
  | _ => none
set_option maxRecDepth 100000 in
theorem decHtS_ok (s : List Seg) (h : Ht) (hd : decHtS s = some h) : s = h.segs := by
  unfold decHtS at hd
  split at hd
  · rename_i sh n d r
    cases hc : (decide (sh = capSh) && Nat.beq n 32) with
    | false => rw [hc] at hd; simp at hd
    | true =>
      rw [hc] at hd
      simp only [cond_true] at hd
      simp only [Bool.and_eq_true, decide_eq_true_eq, beq_true] at hc
      obtain ⟨rfl, rfl⟩ := hc
      split at hd
      · rename_i cs l hcs hl
        cases hn : Nat.beq cs.length 32 with
        | false => rw [hn] at hd; simp at hd
        | true =>
          rw [hn] at hd
          simp only [cond_true] at hd
          split at hd
          · rename_i cs2 u t h2
            split at hd
            · rename_i p hp
              split at hd
              · rename_i ns w hns
                simp only [Option.some.injEq] at hd
                subst hd
                have h1 := decCaps_ok h2
                have h3 := dI64.ok _ _ hp
                have h4 := decNums_ok hns
                have h5 := uncell_ok hl
                have h6 := decRows_ok hcs
                rw [beq_true.1 hn] at h6
                subst h3
                rw [h5, h1, h6, h4]
                unfold Ht.segs
                congr 1
              · simp at hd
            · simp at hd
          · simp at hd
      · simp at hd
  · simp at hd
end Go.Sx

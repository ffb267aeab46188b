/- Rows of cells, opened: capabilities, ranges, processors. -/
import Derived.Test.YtmlhjbdhpojjkaaSxT
import Derived.Test.YtmlhjbdhpojjkaaSxY
set_option linter.unusedSimpArgs false
set_option linter.unusedVariables false
set_option linter.unnecessarySimpa false
namespace Go.Sx
open Go
theorem isCp {l : List AV} (h : AreSc [none, some .i64, some .i64, some .i64, some .i64, some .i64, some .i64, none, some .u64] l) : ∃ c : Cp, AV.agg l = c.av := by
  obtain ⟨_, _, rfl, ⟨tag, rfl⟩, _, _, rfl, ⟨per, rfl⟩, _, _, rfl, ⟨ty, rfl⟩, _, _, rfl, ⟨mo, rfl⟩, _, _, rfl, ⟨e, rfl⟩, _, _, rfl, ⟨b, rfl⟩, _, _, rfl, ⟨t, rfl⟩, _, _, rfl, ⟨big, rfl⟩, _, _, rfl, ⟨ad, rfl⟩, rfl⟩ := h
  exact ⟨⟨tag, per, ty, mo, e, b, t, big, ad⟩, rfl⟩
theorem isRg {l : List AV} (h : AreSc [some .u64, some .u64, none] l) : ∃ c : Rg, AV.agg l = c.av := by
  obtain ⟨_, _, rfl, ⟨a, rfl⟩, _, _, rfl, ⟨b, rfl⟩, _, _, rfl, ⟨o, rfl⟩, rfl⟩ := h
  exact ⟨⟨a, b, o⟩, rfl⟩
def hkOf : HK → Option IntKind
  | .i => some .i64
  | .u => some .u64
  | .b => none
theorem row_congr {h h' : Ht} : ∀ {ks : List HK} {n : Nat}, (∀ m, n ≤ m → h.e m = h'.e m ∧ h.t m = h'.t m) → rowAV h ks n = rowAV h' ks n
  | [], _, _ => rfl
  | .i :: ks, n, hh => by simp only [rowAV]; rw [(hh n (Nat.le_refl _)).1, row_congr (fun m hm => hh m (by omega))]
  | .u :: ks, n, hh => by simp only [rowAV]; rw [(hh n (Nat.le_refl _)).1, row_congr (fun m hm => hh m (by omega))]
  | .b :: ks, n, hh => by simp only [rowAV]; rw [(hh n (Nat.le_refl _)).2, row_congr (fun m hm => hh m (by omega))]
theorem row_open : ∀ {ks : List HK} {n : Nat} {l : List AV}, AreSc (ks.map hkOf) l → ∃ h : Ht, l = rowAV h ks n
  | [], n, l, h => ⟨⟨fun _ => 0, fun _ => false⟩, h⟩
  | k :: ks, n, l, h => by
    obtain ⟨v, r, rfl, hv, hr⟩ := h
    obtain ⟨h0, rfl⟩ := row_open (n := n + 1) hr
    cases k with
    | i =>
      obtain ⟨(x : BitVec 64), rfl⟩ := hv
      refine ⟨⟨fun m => if m = n then x else h0.e m, h0.t⟩, ?_⟩
      rw [row_congr (h := h0) (h' := ⟨fun m => if m = n then x else h0.e m, h0.t⟩) (fun m hm => ⟨(if_neg (show ¬ m = n by omega)).symm, rfl⟩)]
      simp [rowAV]
    | u =>
      obtain ⟨(x : BitVec 64), rfl⟩ := hv
      refine ⟨⟨fun m => if m = n then x else h0.e m, h0.t⟩, ?_⟩
      rw [row_congr (h := h0) (h' := ⟨fun m => if m = n then x else h0.e m, h0.t⟩) (fun m hm => ⟨(if_neg (show ¬ m = n by omega)).symm, rfl⟩)]
      simp [rowAV]
    | b =>
      obtain ⟨x, rfl⟩ := hv
      refine ⟨⟨h0.e, fun m => if m = n then x else h0.t m⟩, ?_⟩
      rw [row_congr (h := h0) (h' := ⟨h0.e, fun m => if m = n then x else h0.t m⟩) (fun m hm => ⟨rfl, (if_neg (show ¬ m = n by omega)).symm⟩)]
      simp [rowAV]
theorem isHt {l : List AV} (h : AreSc (hartK.map hkOf) l) : ∃ c : Ht, AV.agg l = c.av := by
  obtain ⟨c, rfl⟩ := row_open (n := 0) h
  exact ⟨c, rfl⟩
end Go.Sx

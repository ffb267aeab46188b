/- Rows of cells, opened: capabilities, ranges, processors. -/
import Derived.Test.YtkbcfbehebbmhaaGreatSxT
import Derived.Test.YtkbcfbehebbmhaaGreatSxAE
set_option linter.unusedSimpArgs false
set_option linter.unusedVariables false
set_option linter.unnecessarySimpa false
namespace Go.Sx
open Go
theorem isCp {l : List AV} (h : AreSc [none, some .i64, some .i64, some .i64, some .i64, some .i64, some .i64, none, some .u64] l) : ∃ c : Cp, AV.agg l = c.av := by
  obtain ⟨_, _, rfl, ⟨tag, rfl⟩, _, _, rfl, ⟨per, rfl⟩, _, _, rfl, ⟨ty, rfl⟩, _, _, rfl, ⟨mo, rfl⟩, _, _, rfl, ⟨e, rfl⟩, _, _, rfl, ⟨b, rfl⟩, _, _, rfl, ⟨t, rfl⟩, _, _, rfl, ⟨big, rfl⟩, _, _, rfl, ⟨ad, rfl⟩, rfl⟩ := h
  exact ⟨⟨tag, per, ty, mo, e, b, t, big, ad⟩, rfl⟩
theorem isRg {l : List AV} (h : AreSc [some .u64, some .u64, none] l) : ∃ c : Rg, AV.agg l = c.av := by
  obtain ⟨_, _, rfl, ⟨a, rfl⟩, _, _, rfl, ⟨b, rfl⟩, _, _, rfl, ⟨o, rfl⟩, rfl⟩ := h
  exact ⟨⟨a, b, o⟩, rfl⟩
def capK : List (Option IntKind) := [none, some .i64, some .i64, some .i64, some .i64, some .i64, some .i64, none, some .u64]
def capsK : Nat → List (Option IntKind) → List (Option IntKind)
  | 0, t => t
  | n + 1, t => none :: some .i64 :: some .i64 :: some .i64 :: some .i64 :: some .i64 :: some .i64 :: none :: some .u64 :: capsK n t
def hartK : List (Option IntKind) := capsK 42 (some .i64 :: (List.replicate 16 (some .u64) ++ [none]))
def capsAV (f : Nat → Cp) : Nat → Nat → List AV → List AV
  | 0, _, t => t
  | n + 1, i, t => .bool (f i).tag :: .int .i64 (f i).per :: .int .i64 (f i).ty :: .int .i64 (f i).mo :: .int .i64 (f i).e :: .int .i64 (f i).b :: .int .i64 (f i).t :: .bool (f i).big :: .int .u64 (f i).ad :: capsAV f n (i + 1) t
theorem caps_congr {f g : Nat → Cp} : ∀ {n i : Nat} {t : List AV}, (∀ m, i ≤ m → f m = g m) → capsAV f n i t = capsAV g n i t
  | 0, _, _, _ => rfl
  | n + 1, i, t, h => by simp only [capsAV]; rw [h i (Nat.le_refl _), caps_congr (fun m hm => h m (by omega))]
theorem caps_open : ∀ {n i : Nat} {ks : List (Option IntKind)} {l : List AV}, AreSc (capsK n ks) l → ∃ (f : Nat → Cp) (t : List AV), l = capsAV f n i t ∧ AreSc ks t
  | 0, _, ks, l, h => ⟨fun _ => ⟨false, 0, 0, 0, 0, 0, 0, false, 0⟩, l, rfl, h⟩
  | n + 1, i, ks, l, h => by
    obtain ⟨_, _, rfl, ⟨tag, rfl⟩, _, _, rfl, ⟨per, rfl⟩, _, _, rfl, ⟨ty, rfl⟩, _, _, rfl, ⟨mo, rfl⟩, _, _, rfl, ⟨e, rfl⟩, _, _, rfl, ⟨b, rfl⟩, _, _, rfl, ⟨t, rfl⟩, _, _, rfl, ⟨big, rfl⟩, _, _, rfl, ⟨ad, rfl⟩, hr⟩ := h
    obtain ⟨f, tl, rfl, hk⟩ := caps_open (i := i + 1) hr
    refine ⟨fun m => if m = i then ⟨tag, per, ty, mo, e, b, t, big, ad⟩ else f m, tl, ?_, hk⟩
    rw [caps_congr (f := f) (g := fun m => if m = i then ⟨tag, per, ty, mo, e, b, t, big, ad⟩ else f m) (fun m hm => (if_neg (show ¬ m = i by omega)).symm)]
    simp only [capsAV, if_true]
theorem nums_open : ∀ {n i : Nat} {ks : List (Option IntKind)} {l : List AV}, AreSc (List.replicate n (some .u64) ++ ks) l → ∃ (f : Nat → BitVec 64) (t : List AV), l = (List.range' i n).map (fun j => AV.int .u64 (f j)) ++ t ∧ AreSc ks t
  | 0, _, ks, l, h => ⟨fun _ => 0, l, rfl, h⟩
  | n + 1, i, ks, l, h => by
    rw [List.replicate_succ] at h
    obtain ⟨_, _, rfl, ⟨x, rfl⟩, hr⟩ := h
    obtain ⟨f, tl, rfl, hk⟩ := nums_open (i := i + 1) hr
    refine ⟨fun m => if m = i then (show BitVec 64 from x) else f m, tl, ?_, hk⟩
    rw [List.range'_succ]
    simp only [List.map_cons, if_true, List.cons_append]
    congr 2
    apply List.map_congr_left
    intro m hm
    rw [List.mem_range'_1] at hm
    exact congrArg (AV.int .u64) (if_neg (show ¬ m = i by omega)).symm
set_option maxRecDepth 100000 in
theorem isHt {l : List AV} (h : AreSc hartK l) : ∃ c : Ht, AV.agg l = c.av := by
  obtain ⟨f, t, rfl, ht⟩ := caps_open (i := 0) h
  have ht : AreSc (some .i64 :: (List.replicate 16 (some .u64) ++ [none])) t := ht
  obtain ⟨v0, r0, e0, hp, h1⟩ := ht
  obtain ⟨(p : BitVec 64), rfl⟩ := hp
  subst e0
  obtain ⟨g, t1, e1, h2⟩ := nums_open (i := 1) h1
  subst e1
  obtain ⟨v2, r2, e2, hw, hr⟩ := h2
  obtain ⟨w, rfl⟩ := hw
  have hr : r2 = [] := hr
  subst hr
  subst e2
  refine ⟨⟨f, fun n => if n = 0 then p else g n, w⟩, ?_⟩
  have e0 : ∀ (a b : List AV), a = b → AV.agg a = AV.agg b := fun a b h => by rw [h]
  exact e0 _ _ rfl
end Go.Sx

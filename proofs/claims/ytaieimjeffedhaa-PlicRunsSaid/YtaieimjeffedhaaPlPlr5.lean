/- PlicRuns: the law. -/
import Derived.Test.YtaieimjeffedhaaVm12r
import Derived.Test.YtaieimjeffedhaaPlPlr3
set_option linter.unusedSimpArgs false
set_option linter.unusedVariables false
set_option linter.unnecessarySimpa false
namespace Go.Sx
open Go
theorem p0_ok : POk ⟨zr32, 0#32, 0#32, zr2, zr2⟩ := by

  have c32 : ∀ k, cell32 zr32 k = 0#32 := fun k => by
    by_cases h : k < 32
    · have : ∀ k : Fin 32, cell32 zr32 k.val = 0#32 := by decide
      exact this ⟨k, h⟩
    · unfold cell32; rw [show zr32.getD k [] = [] by simp [List.getD, List.getElem?_eq_none (show zr32.length ≤ k by show 32 ≤ k; omega)]]; rfl
  have c2 : ∀ k, cell32 zr2 k = 0#32 := fun k => by
    by_cases h : k < 2
    · have : ∀ k : Fin 2, cell32 zr2 k.val = 0#32 := by decide
      exact this ⟨k, h⟩
    · unfold cell32; rw [show zr2.getD k [] = [] by simp [List.getD, List.getElem?_eq_none (show zr2.length ≤ k by show 2 ≤ k; omega)]]; rfl
  exact { lpr := rfl, len := rfl, lth := rfl, pr0 := c32 0, pr7 := fun k => by rw [c32 k]; decide, en1 := fun k => by show (cell32 zr2 k)[0] = false; rw [c2 k]; simp, th7 := fun k => by show (cell32 zr2 k).toNat < 8; rw [c2 k]; decide, pe0 := rfl, se0 := rfl, dis := rfl }
theorem plicRuns_r (n : Nat) (d : List (List AV)) (hl : d.length = n) (hf : fitsAll [.int .i64, .int .i64, .int .i64, .int .u64, .int .u32] d = true) (hn : n < 2 ^ 63) : t_PlicRuns_r n d = some (.bool true) := by
  have hg : ∀ L T, L = xOf ⟨zr32, 0#32, 0#32, zr2, zr2⟩ → T = tOf ⟨zr32, 0#32, 0#32, zr2, zr2⟩ → g_pl (.a n n d zr32 0#32 0#32 zr2 zr2 L T 0#64) = true := fun L T h1 h2 => g_pl_ok ⟨p0_ok, h1, h2, Nat.le_refl _, hn, by simp⟩
  unfold t_PlicRuns_r
  rw [hg _ _ (by rfl) (by rfl)]
  cases (300#64).slt (BitVec.ofNat 64 n) <;> rfl
theorem plicRuns_n : t_PlicRuns_n = some (.bool true) := rfl
end Go.Sx

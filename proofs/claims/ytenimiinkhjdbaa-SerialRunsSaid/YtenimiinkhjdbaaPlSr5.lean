/- SerialRuns: the law. -/
import Derived.Test.YtenimiinkhjdbaaVm14r
import Derived.Test.YtenimiinkhjdbaaPlSr4
set_option linter.unusedSimpArgs false
set_option linter.unusedVariables false
set_option linter.unnecessarySimpa false
namespace Go.Sx
open Go
theorem serialRuns_r (n : Nat) (d : List (List AV)) (hl : d.length = n) (hf : fitsAll [.int .i64, .int .i64, .int .i64, .int .u64] d = true) (hn : n < 2 ^ 63) : t_SerialRuns_r n d = some (.bool true) := by
  have hg : ∀ q, q.length = 16 → g_sr (.nn false n n d q 0#64 0#64 false false 18446744073709551615#64 false false 0#64) = true := fun q hq => g_sr_ok ⟨⟨hq, by decide, rfl⟩, rfl, rfl, rfl, Nat.le_refl _, hn, by simp⟩
  unfold t_SerialRuns_r
  rw [hg _ rfl]
  simp only [Bool.cond_self, cond_true]
theorem serialRuns_n : t_SerialRuns_n = some (.bool true) := rfl
end Go.Sx

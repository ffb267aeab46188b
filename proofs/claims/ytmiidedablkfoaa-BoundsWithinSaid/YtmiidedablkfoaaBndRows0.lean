/- What all rows of the seat take. -/
import Derived.Test.YtmiidedablkfoaaSxT
import Derived.Test.YtmiidedablkfoaaSxU
import Derived.Test.YtmiidedablkfoaaRows
set_option linter.unusedSimpArgs false
set_option linter.unusedVariables false
set_option linter.unnecessarySimpa false
namespace Go.Proofs.Ytmiidedablkfoaa
open Go Go.Sx
set_option maxRecDepth 100000
theorem own : ownKnob Try.prog.godebug = none := by kernel_rfl
theorem laidOut : laidOutB Try.prog = true := by kernel_rfl
theorem isCp {l : List AV} (h : AreSc [none, some .i64, some .i64, some .i64, some .i64, some .i64, some .i64, none, some .u64] l) : ∃ c : Cp, AV.agg l = c.av := by
  obtain ⟨_, _, rfl, ⟨tag, rfl⟩, _, _, rfl, ⟨per, rfl⟩, _, _, rfl, ⟨ty, rfl⟩, _, _, rfl, ⟨mo, rfl⟩, _, _, rfl, ⟨e, rfl⟩, _, _, rfl, ⟨b, rfl⟩, _, _, rfl, ⟨t, rfl⟩, _, _, rfl, ⟨big, rfl⟩, _, _, rfl, ⟨ad, rfl⟩, rfl⟩ := h
  exact ⟨⟨tag, per, ty, mo, e, b, t, big, ad⟩, rfl⟩
theorem isRg {l : List AV} (h : AreSc [some .u64, some .u64, none] l) : ∃ c : Rg, AV.agg l = c.av := by
  obtain ⟨_, _, rfl, ⟨a, rfl⟩, _, _, rfl, ⟨b, rfl⟩, _, _, rfl, ⟨o, rfl⟩, rfl⟩ := h
  exact ⟨⟨a, b, o⟩, rfl⟩
end Go.Proofs.Ytmiidedablkfoaa

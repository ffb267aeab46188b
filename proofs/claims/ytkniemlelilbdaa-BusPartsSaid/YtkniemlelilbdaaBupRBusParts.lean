/- The row of the law BusParts: it answers true, whatever its arguments. -/
import Derived.Test.YtkniemlelilbdaaPlBusP
import Derived.Test.YtkniemlelilbdaaBupRuns
import Derived.Test.YtkniemlelilbdaaBupRows0
set_option linter.unusedSimpArgs false
set_option linter.unusedVariables false
set_option linter.unnecessarySimpa false
namespace Go.Proofs.Ytkniemlelilbdaa
open Go Go.Sx Go.ChangeShapes Go.WideShapes Go.ChangeAt Go.RowKit
set_option maxRecDepth 100000
theorem busParts_lifted (os : Os) (started : os.Started) (H : Type) (enc : TypeId × Value → H) :
    ReturnsInHanded {} Try.checked os 4 .any (Rows.busPartsSpec.pre6 enc Try.prog Try.f4 Rows.busPartsRow.domain false) (Rows.busPartsSpec.post enc Try.prog Try.f4 false true false false) := by
  refine returnsInHanded_of_change (C := Try.checked) own started (by kernel_rfl) Try.func4
    (ChangeSpec.witness6 (enc := enc) (C := Try.checked) false ⟨#[], #[.int .u64 0, .int .u64 0, .int .u64 0], []⟩ 8 (by kernel_rfl) (by kernel_rfl) (by kernel_rfl) (by kernel_rfl)) ?_
  intro W base args ds gs before hval0 hW hcnd _
  have hval : ∀ (j : Nat) t v, Try.f4.params[j]? = some t → args[j]? = some v → Value.okWide Try.prog W .any base t v := hval0
  obtain ⟨p, q, hA, _⟩ := id hW
  obtain ⟨L, hL, hsh⟩ := ags_open (ss := [.val (.sc (some .u64)), .val (.sc (some .u64)), .val (.sc (some .u64))]) (by kernel_rfl) hA (fun j t v ht hv => hval j t v (by simpa using ht) (by simpa using hv))
  obtain ⟨a0, _, rfl, h0, a1, _, rfl, h1, a2, _, rfl, h2, rfl⟩ := hsh
  obtain ⟨v0, rfl, h0⟩ := agIs_val h0
  obtain ⟨at_, rfl⟩ := h0
  obtain ⟨v1, rfl, h1⟩ := agIs_val h1
  obtain ⟨a, rfl⟩ := h1
  obtain ⟨v2, rfl, h2⟩ := agIs_val h2
  obtain ⟨b, rfl⟩ := h2
  refine ends_true (tb := 4) hW rfl (by kernel_rfl) (by kernel_rfl) (fun ds hd => ?_) laidOut (by kernel_rfl) (calls_trueR snd_4 Try.func4 (F := F4) W hL ((run_4_x at_ a b).trans (busParts_x at_ a b)))
  match ds, hd with
  | [d0, d1, d2], _ => rfl

theorem busParts_holds : Rows.BusPartsSaid :=
  OpenClaim.holds_of_wide 4 Try.f4 rfl rfl rfl rfl rfl rfl rfl ⟨rfl, rfl, rfl, rfl, rfl⟩ rfl rfl rfl rfl rfl (by kernel_rfl) Try.func4 (by kernel_rfl)
    (of_decide_eq_true (by kernel_rfl)) (by unfold Func.isWrapper; first | (rw [if_pos (by decide +kernel)]; kernel_rfl) | (rw [if_neg (by decide +kernel)]; exact ⟨rfl, rfl⟩))
    (fun os started H enc _ => busParts_lifted os started H enc)
#print axioms busParts_holds
end Go.Proofs.Ytkniemlelilbdaa

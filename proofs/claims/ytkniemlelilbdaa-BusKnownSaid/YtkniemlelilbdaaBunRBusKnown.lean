/- The row of the law BusKnown: it answers true, whatever its arguments. -/
import Derived.Test.YtkniemlelilbdaaPlBusK
import Derived.Test.YtkniemlelilbdaaBunRuns
import Derived.Test.YtkniemlelilbdaaBunRows0
set_option linter.unusedSimpArgs false
set_option linter.unusedVariables false
set_option linter.unnecessarySimpa false
namespace Go.Proofs.Ytkniemlelilbdaa
open Go Go.Sx Go.ChangeShapes Go.WideShapes Go.ChangeAt Go.RowKit
set_option maxRecDepth 100000
theorem busKnown_lifted (os : Os) (started : os.Started) (H : Type) (enc : TypeId × Value → H) :
    ReturnsInHanded {} Try.checked os 3 .any (Rows.busKnownSpec.pre6 enc Try.prog Try.f3 Rows.busKnownRow.domain false) (Rows.busKnownSpec.post enc Try.prog Try.f3 false true false false) := by
  refine returnsInHanded_of_change (C := Try.checked) own started (by kernel_rfl) Try.func3
    (ChangeSpec.witness6 (enc := enc) (C := Try.checked) false ⟨#[], #[], []⟩ 8 (by kernel_rfl) (by kernel_rfl) (by kernel_rfl) (by kernel_rfl)) ?_
  intro W base args ds gs before hval0 hW hcnd _
  have hval : ∀ (j : Nat) t v, Try.f3.params[j]? = some t → args[j]? = some v → Value.okWide Try.prog W .any base t v := hval0
  obtain ⟨p, q, hA, _⟩ := id hW
  obtain ⟨L, hL, hsh⟩ := ags_open (ss := []) (by kernel_rfl) hA (fun j t v ht hv => hval j t v (by simpa using ht) (by simpa using hv))
  obtain rfl := hsh
  refine ends_true (tb := 4) hW rfl (by kernel_rfl) (by kernel_rfl) (fun ds hd => ?_) laidOut (by kernel_rfl) (calls_trueR snd_3 Try.func3 (F := F3) W hL (run_3_x.trans busKnown_x))
  match ds, hd with
  | [], _ => rfl

theorem busKnown_holds : Rows.BusKnownSaid :=
  OpenClaim.holds_of_wide 3 Try.f3 rfl rfl rfl rfl rfl rfl rfl ⟨rfl, rfl, rfl, rfl, rfl⟩ rfl rfl rfl rfl rfl (by kernel_rfl) Try.func3 (by kernel_rfl)
    (of_decide_eq_true (by kernel_rfl)) (by unfold Func.isWrapper; first | (rw [if_pos (by decide +kernel)]; kernel_rfl) | (rw [if_neg (by decide +kernel)]; exact ⟨rfl, rfl⟩))
    (fun os started H enc _ => busKnown_lifted os started H enc)
#print axioms busKnown_holds
end Go.Proofs.Ytkniemlelilbdaa

/- The row of the law BoundsKnown: it answers true, whatever its arguments. -/
import Derived.Test.YtgmemioomkbofaaPlBk2
import Derived.Test.YtgmemioomkbofaaBkkRuns
import Derived.Test.YtgmemioomkbofaaBkkRows0
set_option linter.unusedSimpArgs false
set_option linter.unusedVariables false
set_option linter.unnecessarySimpa false
namespace Go.Proofs.Ytgmemioomkbofaa
open Go Go.Sx Go.ChangeShapes Go.WideShapes Go.ChangeAt Go.RowKit
set_option maxRecDepth 100000
theorem boundsKnown_lifted (os : Os) (started : os.Started) (H : Type) (enc : TypeId × Value → H) :
    ReturnsInHanded {} Try.checked os 4 .any (Rows.boundsKnownSpec.pre6 enc Try.prog Try.f4 Rows.boundsKnownRow.domain false) (Rows.boundsKnownSpec.post enc Try.prog Try.f4 false true false false) := by
  refine returnsInHanded_of_change (C := Try.checked) own started (by kernel_rfl) Try.func4
    (ChangeSpec.witness6 (enc := enc) (C := Try.checked) false ⟨#[], #[], []⟩ 8 (by kernel_rfl) (by kernel_rfl) (by kernel_rfl) (by kernel_rfl)) ?_
  intro W base args ds gs before hval0 hW hcnd _
  have hval : ∀ (j : Nat) t v, Try.f4.params[j]? = some t → args[j]? = some v → Value.okWide Try.prog W .any base t v := hval0
  obtain ⟨p, q, hA, _⟩ := id hW
  have hlen := (trodAll_length hA).1
  obtain ⟨la, has, hsh⟩ := shps_open (ρ := fun _ => none) (ts := Try.f4.params.toList) (vs := args.toList) (ss := []) (by kernel_rfl) hlen (fun j t v ht hv => hval j t v (by simpa using ht) (by simpa using hv))
  obtain rfl := hsh
  refine ends_true (tb := 4) hW rfl (by kernel_rfl) (by kernel_rfl) (fun ds hd => ?_) laidOut (by kernel_rfl) (calls_true snd_4 Try.func4 (F := F4) (run_4.trans boundsKnown_plain) (rfl) W has (hF := fok_4))
  match ds, hd with
  | [], _ => rfl

theorem boundsKnown_holds : Rows.BoundsKnownSaid :=
  OpenClaim.holds_of_wide 4 Try.f4 rfl rfl rfl rfl rfl rfl rfl ⟨rfl, rfl, rfl, rfl, rfl⟩ rfl rfl rfl rfl rfl (by kernel_rfl) Try.func4 (by kernel_rfl)
    (of_decide_eq_true (by kernel_rfl)) (by unfold Func.isWrapper; first | (rw [if_pos (by decide +kernel)]; kernel_rfl) | (rw [if_neg (by decide +kernel)]; exact ⟨rfl, rfl⟩))
    (fun os started H enc _ => boundsKnown_lifted os started H enc)
#print axioms boundsKnown_holds
end Go.Proofs.Ytgmemioomkbofaa

/- The row of the law CapopsKnown: it answers true, whatever its arguments. -/
import Derived.Test.YtampipogplbobaaPlCap
import Derived.Test.YtampipogplbobaaCapRuns
import Derived.Test.YtampipogplbobaaCapRows0
set_option linter.unusedSimpArgs false
set_option linter.unusedVariables false
set_option linter.unnecessarySimpa false
namespace Go.Proofs.Ytampipogplbobaa
open Go Go.Sx Go.ChangeShapes Go.WideShapes Go.ChangeAt Go.RowKit
set_option maxRecDepth 100000
theorem capopsKnown_lifted (os : Os) (started : os.Started) (H : Type) (enc : TypeId × Value → H) :
    ReturnsInHanded {} Try.checked os 9 .any (Rows.capopsKnownSpec.pre6 enc Try.prog Try.f9 Rows.capopsKnownRow.domain false) (Rows.capopsKnownSpec.post enc Try.prog Try.f9 false true false false) := by
  refine returnsInHanded_of_change (C := Try.checked) own started (by kernel_rfl) Try.func9
    (ChangeSpec.witness6 (enc := enc) (C := Try.checked) false ⟨#[], #[], []⟩ 8 (by kernel_rfl) (by kernel_rfl) (by kernel_rfl) (by kernel_rfl)) ?_
  intro W base args ds gs before hval0 hW hcnd _
  have hval : ∀ (j : Nat) t v, Try.f9.params[j]? = some t → args[j]? = some v → Value.okWide Try.prog W .any base t v := hval0
  obtain ⟨p, q, hA, _⟩ := id hW
  have hlen := (trodAll_length hA).1
  obtain ⟨la, has, hsh⟩ := shps_open (ρ := fun _ => none) (ts := Try.f9.params.toList) (vs := args.toList) (ss := []) (by kernel_rfl) hlen (fun j t v ht hv => hval j t v (by simpa using ht) (by simpa using hv))
  obtain rfl := hsh
  refine ends_true (tb := 4) hW rfl (by kernel_rfl) (by kernel_rfl) (fun ds hd => ?_) laidOut (by kernel_rfl) (calls_true snd_9 Try.func9 (F := F9) (run_9.trans capknown) (rfl) W has)
  match ds, hd with
  | [], _ => rfl

theorem capopsKnown_holds : Rows.CapopsKnownSaid :=
  OpenClaim.holds_of_wide 9 Try.f9 rfl rfl rfl rfl rfl rfl rfl ⟨rfl, rfl, rfl, rfl, rfl⟩ rfl rfl rfl rfl rfl (by kernel_rfl) Try.func9 (by kernel_rfl)
    (of_decide_eq_true (by kernel_rfl)) (by unfold Func.isWrapper; first | (rw [if_pos (by decide +kernel)]; kernel_rfl) | (rw [if_neg (by decide +kernel)]; exact ⟨rfl, rfl⟩))
    (fun os started H enc _ => capopsKnown_lifted os started H enc)
#print axioms capopsKnown_holds
end Go.Proofs.Ytampipogplbobaa

/- The row of the law BoundsOnce: it answers true, whatever its arguments. -/
import Derived.Test.YtgmemioomkbofaaPlOnce9
import Derived.Test.YtgmemioomkbofaaBkoRuns
import Derived.Test.YtgmemioomkbofaaBkoRows0
set_option linter.unusedSimpArgs false
set_option linter.unusedVariables false
set_option linter.unnecessarySimpa false
namespace Go.Proofs.Ytgmemioomkbofaa
open Go Go.Sx Go.ChangeShapes Go.WideShapes Go.ChangeAt Go.RowKit
set_option maxRecDepth 100000
theorem boundsOnce_lifted (os : Os) (started : os.Started) (H : Type) (enc : TypeId × Value → H) :
    ReturnsInHanded {} Try.checked os 3 .any (Rows.boundsOnceSpec.pre6 enc Try.prog Try.f3 Rows.boundsOnceRow.domain false) (Rows.boundsOnceSpec.post enc Try.prog Try.f3 false true false false) := by
  refine returnsInHanded_of_change (C := Try.checked) own started (by kernel_rfl) Try.func3
    (ChangeSpec.witness6 (enc := enc) (C := Try.checked) false ⟨#[], #[.int .u64 0, .int .u64 0], []⟩ 8 (by kernel_rfl) (by kernel_rfl) (by kernel_rfl) (by kernel_rfl)) ?_
  intro W base args ds gs before hval0 hW hcnd _
  have hval : ∀ (j : Nat) t v, Try.f3.params[j]? = some t → args[j]? = some v → Value.okWide Try.prog W .any base t v := hval0
  obtain ⟨p, q, hA, _⟩ := id hW
  have hlen := (trodAll_length hA).1
  obtain ⟨la, has, hsh⟩ := shps_open (ρ := fun _ => none) (ts := Try.f3.params.toList) (vs := args.toList) (ss := [.sc (some .u64), .sc (some .u64)]) (by kernel_rfl) hlen (fun j t v ht hv => hval j t v (by simpa using ht) (by simpa using hv))
  obtain ⟨_, _, rfl, ⟨xat, rfl⟩, _, _, rfl, ⟨n, rfl⟩, rfl⟩ := hsh
  refine ends_true (tb := 4) hW rfl (by kernel_rfl) (by kernel_rfl) (fun ds hd => ?_) laidOut (by kernel_rfl) (calls_true snd_3 Try.func3 (F := F3) ((run_3 xat n).trans (once_plain xat n)) (rfl) W has)
  match ds, hd with
  | [d0, d1], _ => rfl

theorem boundsOnce_holds : Rows.BoundsOnceSaid :=
  OpenClaim.holds_of_wide 3 Try.f3 rfl rfl rfl rfl rfl rfl rfl ⟨rfl, rfl, rfl, rfl, rfl⟩ rfl rfl rfl rfl rfl (by kernel_rfl) Try.func3 (by kernel_rfl)
    (of_decide_eq_true (by kernel_rfl)) (by unfold Func.isWrapper; first | (rw [if_pos (by decide +kernel)]; kernel_rfl) | (rw [if_neg (by decide +kernel)]; exact ⟨rfl, rfl⟩))
    (fun os started H enc _ => boundsOnce_lifted os started H enc)
#print axioms boundsOnce_holds
end Go.Proofs.Ytgmemioomkbofaa

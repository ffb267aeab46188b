/- The row of the law TrapBack: it answers true, whatever its arguments. -/
import Derived.Test.YtpofnfcbgamhpaaPlTrap6
import Derived.Test.YtpofnfcbgamhpaaTrpRuns
import Derived.Test.YtpofnfcbgamhpaaTrpRows0
set_option linter.unusedSimpArgs false
set_option linter.unusedVariables false
set_option linter.unnecessarySimpa false
namespace Go.Proofs.Ytpofnfcbgamhpaa
open Go Go.Sx Go.ChangeShapes Go.WideShapes Go.ChangeAt Go.RowKit
set_option maxRecDepth 100000
theorem trapBack_lifted (os : Os) (started : os.Started) (H : Type) (enc : TypeId × Value → H) :
    ReturnsInHanded {} Try.checked os 5 .any (Rows.trapBackSpec.pre6 enc Try.prog Try.f5 Rows.trapBackRow.domain false) (Rows.trapBackSpec.post enc Try.prog Try.f5 false true false false) := by
  refine returnsInHanded_of_change (C := Try.checked) own started (by kernel_rfl) Try.func5
    (ChangeSpec.witness6 (enc := enc) (C := Try.checked) false ⟨#[], #[.agg (((List.replicate 42 ([.bool false, .int .i64 0, .int .i64 0, .int .i64 0, .int .i64 0, .int .i64 0, .int .i64 0, .bool false, .int .u64 0] : List Value)).flatten ++ ([.int .i64 0, .int .u64 0, .int .u64 0, .int .u64 0, .int .u64 0, .int .u64 0, .int .u64 0, .int .u64 0, .int .u64 0, .int .u64 0, .int .u64 0, .int .u64 0, .int .u64 0, .int .u64 0, .int .u64 0, .int .u64 0, .int .u64 0, .bool false] : List Value)).toArray), .int .i64 0, .bool false, .int .u64 0], []⟩ 8 (by kernel_rfl) (by kernel_rfl) (by kernel_rfl) (by kernel_rfl)) ?_
  intro W base args ds gs before hval0 hW hcnd _
  have hval : ∀ (j : Nat) t v, Try.f5.params[j]? = some t → args[j]? = some v → Value.okWide Try.prog W .any base t v := hval0
  obtain ⟨p, q, hA, _⟩ := id hW
  have hlen := (trodAll_length hA).1
  obtain ⟨la, has, hsh⟩ := shps_open (ρ := fun _ => none) (ts := Try.f5.params.toList) (vs := args.toList) (ss := [.row hartK, .sc (some .i64), .sc none, .sc (some .u64)]) (by kernel_rfl) hlen (fun j t v ht hv => hval j t v (by simpa using ht) (by simpa using hv))
  obtain ⟨_, _, rfl, ⟨rh, rfl, hh⟩, _, _, rfl, ⟨cause, rfl⟩, _, _, rfl, ⟨interrupt, rfl⟩, _, _, rfl, ⟨value, rfl⟩, rfl⟩ := hsh
  obtain ⟨h, ch⟩ := isHt hh
  rw [ch] at has
  refine ends_true (tb := 4) hW rfl (by kernel_rfl) (by kernel_rfl) (fun ds hd => ?_) laidOut (by kernel_rfl) (calls_true snd_5 Try.func5 (F := F5) ((run_5 h cause interrupt value).trans (back_plain h cause interrupt value)) (rfl) W has)
  match ds, hd with
  | [d0, d1, d2, d3], _ => rfl

theorem trapBack_holds : Rows.TrapBackSaid :=
  OpenClaim.holds_of_wide 5 Try.f5 rfl rfl rfl rfl rfl rfl rfl ⟨rfl, rfl, rfl, rfl, rfl⟩ rfl rfl rfl rfl rfl (by kernel_rfl) Try.func5 (by kernel_rfl)
    (of_decide_eq_true (by kernel_rfl)) (by unfold Func.isWrapper; first | (rw [if_pos (by decide +kernel)]; kernel_rfl) | (rw [if_neg (by decide +kernel)]; exact ⟨rfl, rfl⟩))
    (fun os started H enc _ => trapBack_lifted os started H enc)
#print axioms trapBack_holds
end Go.Proofs.Ytpofnfcbgamhpaa

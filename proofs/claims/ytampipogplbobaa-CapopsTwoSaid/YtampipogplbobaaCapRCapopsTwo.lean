/- The row of the law CapopsTwo: it answers true, whatever its arguments. -/
import Derived.Test.YtampipogplbobaaPlCap4
import Derived.Test.YtampipogplbobaaCapRuns2
import Derived.Test.YtampipogplbobaaCapRows0
set_option linter.unusedSimpArgs false
set_option linter.unusedVariables false
set_option linter.unnecessarySimpa false
namespace Go.Proofs.Ytampipogplbobaa
open Go Go.Sx Go.ChangeShapes Go.WideShapes Go.ChangeAt Go.RowKit
set_option maxRecDepth 100000
theorem capopsTwo_lifted (os : Os) (started : os.Started) (H : Type) (enc : TypeId × Value → H) :
    ReturnsInHanded {} Try.checked os 7 .any (Rows.capopsTwoSpec.pre6 enc Try.prog Try.f7 Rows.capopsTwoRow.domain false) (Rows.capopsTwoSpec.post enc Try.prog Try.f7 false true false false) := by
  refine returnsInHanded_of_change (C := Try.checked) own started (by kernel_rfl) Try.func7
    (ChangeSpec.witness6 (enc := enc) (C := Try.checked) false ⟨#[], #[.agg #[.bool false, .int .i64 0, .int .i64 0, .int .i64 0, .int .i64 0, .int .i64 0, .int .i64 0, .bool false, .int .u64 0], .agg #[.bool false, .int .i64 0, .int .i64 0, .int .i64 0, .int .i64 0, .int .i64 0, .int .i64 0, .bool false, .int .u64 0]], []⟩ 8 (by kernel_rfl) (by kernel_rfl) (by kernel_rfl) (by kernel_rfl)) ?_
  intro W base args ds gs before hval0 hW hcnd _
  have hval : ∀ (j : Nat) t v, Try.f7.params[j]? = some t → args[j]? = some v → Value.okWide Try.prog W .any base t v := hval0
  obtain ⟨p, q, hA, _⟩ := id hW
  have hlen := (trodAll_length hA).1
  obtain ⟨la, has, hsh⟩ := shps_open (ρ := fun _ => none) (ts := Try.f7.params.toList) (vs := args.toList) (ss := [.row [none, some .i64, some .i64, some .i64, some .i64, some .i64, some .i64, none, some .u64], .row [none, some .i64, some .i64, some .i64, some .i64, some .i64, some .i64, none, some .u64]]) (by kernel_rfl) hlen (fun j t v ht hv => hval j t v (by simpa using ht) (by simpa using hv))
  obtain ⟨_, _, rfl, ⟨ra, rfl, ha⟩, _, _, rfl, ⟨rxb, rfl, hxb⟩, rfl⟩ := hsh
  obtain ⟨a, ca⟩ := isCp ha
  rw [ca] at has
  obtain ⟨xb, cxb⟩ := isCp hxb
  rw [cxb] at has
  refine ends_true (tb := 4) hW rfl (by kernel_rfl) (by kernel_rfl) (fun ds hd => ?_) laidOut (by kernel_rfl) (calls_true snd_7 Try.func7 (F := F7) ((run_7 a xb).trans (captwo a xb)) (rfl) W has)
  match ds, hd with
  | [d0, d1], _ => rfl

theorem capopsTwo_holds : Rows.CapopsTwoSaid :=
  OpenClaim.holds_of_wide 7 Try.f7 rfl rfl rfl rfl rfl rfl rfl ⟨rfl, rfl, rfl, rfl, rfl⟩ rfl rfl rfl rfl rfl (by kernel_rfl) Try.func7 (by kernel_rfl)
    (of_decide_eq_true (by kernel_rfl)) (by unfold Func.isWrapper; first | (rw [if_pos (by decide +kernel)]; kernel_rfl) | (rw [if_neg (by decide +kernel)]; exact ⟨rfl, rfl⟩))
    (fun os started H enc _ => capopsTwo_lifted os started H enc)
#print axioms capopsTwo_holds
end Go.Proofs.Ytampipogplbobaa

/- The row of the law WalkAgain: it answers true, whatever its arguments. -/
import Derived.Test.YtkbcfbehebbmhaaPlWkQ
import Derived.Test.YtkbcfbehebbmhaaWagRuns
import Derived.Test.YtkbcfbehebbmhaaWagRows0
set_option linter.unusedSimpArgs false
set_option linter.unusedVariables false
set_option linter.unnecessarySimpa false
namespace Go.Proofs.Ytkbcfbehebbmhaa
open Go Go.Sx Go.ChangeShapes Go.WideShapes Go.ChangeAt Go.RowKit
set_option maxRecDepth 100000
theorem walkAgain_lifted (os : Os) (started : os.Started) (H : Type) (enc : TypeId × Value → H) :
    ReturnsInHanded {} Try.checked os 3 .any (Rows.walkAgainSpec.pre6 enc Try.prog Try.f3 Rows.walkAgainRow.domain false) (Rows.walkAgainSpec.post enc Try.prog Try.f3 false true false false) := by
  refine returnsInHanded_of_change (C := Try.checked) own started (by kernel_rfl) Try.func3
    (ChangeSpec.witness6 (enc := enc) (C := Try.checked) false ⟨#[], #[.slice none 0 0, .agg #[.int .u64 0, .int .u64 0, .int .u64 0, .int .i64 0, .int .i64 0]], []⟩ 8 (by kernel_rfl) (by kernel_rfl) (by kernel_rfl) (by kernel_rfl)) ?_
  intro W base args ds gs before hval0 hW hcnd _
  have hval : ∀ (j : Nat) t v, Try.f3.params[j]? = some t → args[j]? = some v → Value.okWide Try.prog W .any base t v := hval0
  obtain ⟨p, q, hA, _⟩ := id hW
  obtain ⟨L, hL, hsh⟩ := ags_open (ss := [.rw [.int .i64, .int .u64], .val (.row [some .u64, some .u64, some .u64, some .i64, some .i64])]) (by kernel_rfl) hA (fun j t v ht hv => hval j t v (by simpa using ht) (by simpa using hv))
  obtain ⟨a0, _, rfl, h0, a1, _, rfl, h1, rfl⟩ := hsh
  obtain ⟨s0, rfl, k0⟩ := agIs_rw h0
  obtain ⟨v1, rfl, h1⟩ := agIs_val h1
  obtain ⟨r1, rfl, _, _, rfl, ⟨a_0, rfl⟩, _, _, rfl, ⟨a_1, rfl⟩, _, _, rfl, ⟨a_2, rfl⟩, _, _, rfl, ⟨a_3, rfl⟩, _, _, rfl, ⟨a_4, rfl⟩, rfl⟩ := h1
  cases s0 with
  | nil =>
    refine ends_true (tb := 4) hW rfl (by kernel_rfl) (by kernel_rfl) (fun ds hd => ?_) laidOut (by kernel_rfl) (calls_trueR snd_3 Try.func3 (F := F3) W hL ((run_3_n a_0 a_1 a_2 a_3 a_4).trans (walkAgain_n a_0 a_1 a_2 a_3 a_4)) (hF := fok_3))
    match ds, hd with
    | [d0, d1], _ => rfl
  | row k ws =>
    refine ends_true (tb := 4) hW rfl (by kernel_rfl) (by kernel_rfl) (fun ds hd => ?_) laidOut (by kernel_rfl) (calls_trueR snd_3 Try.func3 (F := F3) W hL ((run_3_r k ws a_0 a_1 a_2 a_3 a_4).trans (walkAgain_r k ws a_0 a_1 a_2 a_3 a_4 (k0 _ _ rfl).1 (k0 _ _ rfl).2.1 (k0 _ _ rfl).2.2)) (hF := fok_3))
    match ds, hd with
    | [d0, d1], _ => rfl

theorem walkAgain_holds : Rows.WalkAgainSaid :=
  OpenClaim.holds_of_wide 3 Try.f3 rfl rfl rfl rfl rfl rfl rfl ⟨rfl, rfl, rfl, rfl, rfl⟩ rfl rfl rfl rfl rfl (by kernel_rfl) Try.func3 (by kernel_rfl)
    (of_decide_eq_true (by kernel_rfl)) (by unfold Func.isWrapper; first | (rw [if_pos (by decide +kernel)]; kernel_rfl) | (rw [if_neg (by decide +kernel)]; exact ⟨rfl, rfl⟩))
    (fun os started H enc _ => walkAgain_lifted os started H enc)
#print axioms walkAgain_holds
end Go.Proofs.Ytkbcfbehebbmhaa

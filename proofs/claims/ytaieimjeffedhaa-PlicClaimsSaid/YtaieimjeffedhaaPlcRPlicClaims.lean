/- The row of the law PlicClaims: it answers true, whatever its arguments. -/
import Derived.Test.YtaieimjeffedhaaPlPlc5
import Derived.Test.YtaieimjeffedhaaPlcRuns
import Derived.Test.YtaieimjeffedhaaPlcRows0
set_option linter.unusedSimpArgs false
set_option linter.unusedVariables false
set_option linter.unnecessarySimpa false
namespace Go.Proofs.Ytaieimjeffedhaa
open Go Go.Sx Go.ChangeShapes Go.WideShapes Go.ChangeAt Go.RowKit
set_option maxRecDepth 100000
theorem plicClaims_lifted (os : Os) (started : os.Started) (H : Type) (enc : TypeId × Value → H) :
    ReturnsInHanded {} Try.checked os 4 .any (Rows.plicClaimsSpec.pre6 enc Try.prog Try.f4 Rows.plicClaimsRow.domain false) (Rows.plicClaimsSpec.post enc Try.prog Try.f4 false true false false) := by
  refine returnsInHanded_of_change (C := Try.checked) own started (by kernel_rfl) Try.func4
    (ChangeSpec.witness6 (enc := enc) (C := Try.checked) false ⟨#[], #[.slice none 0 0, .bool false], []⟩ 8 (by kernel_rfl) (by kernel_rfl) (by kernel_rfl) (by kernel_rfl)) ?_
  intro W base args ds gs before hval0 hW hcnd _
  have hval : ∀ (j : Nat) t v, Try.f4.params[j]? = some t → args[j]? = some v → Value.okWide Try.prog W .any base t v := hval0
  obtain ⟨p, q, hA, _⟩ := id hW
  obtain ⟨L, hL, hsh⟩ := ags_open (ss := [.rw [.int .i64, .int .i64, .int .i64, .int .u64, .int .u32], .val (.sc none)]) (by kernel_rfl) hA (fun j t v ht hv => hval j t v (by simpa using ht) (by simpa using hv))
  obtain ⟨a0, _, rfl, h0, a1, _, rfl, h1, rfl⟩ := hsh
  obtain ⟨s0, rfl, k0⟩ := agIs_rw h0
  obtain ⟨v1, rfl, h1⟩ := agIs_val h1
  obtain ⟨second, rfl⟩ := h1
  cases s0 with
  | nil =>
    refine ends_true (tb := 4) hW rfl (by kernel_rfl) (by kernel_rfl) (fun ds hd => ?_) laidOut (by kernel_rfl) (calls_trueR snd_4 Try.func4 (F := F4) W hL ((run_4_n second).trans (plicClaims_n second)) (hF := fok_4))
    match ds, hd with
    | [d0, d1], _ => rfl
  | row n d =>
    refine ends_true (tb := 4) hW rfl (by kernel_rfl) (by kernel_rfl) (fun ds hd => ?_) laidOut (by kernel_rfl) (calls_trueR snd_4 Try.func4 (F := F4) W hL ((run_4_r n d second).trans (plicClaims_r n d second (k0 _ _ rfl).1 (k0 _ _ rfl).2.1 (k0 _ _ rfl).2.2)) (hF := fok_4))
    match ds, hd with
    | [d0, d1], _ => rfl

theorem plicClaims_holds : Rows.PlicClaimsSaid :=
  OpenClaim.holds_of_wide 4 Try.f4 rfl rfl rfl rfl rfl rfl rfl ⟨rfl, rfl, rfl, rfl, rfl⟩ rfl rfl rfl rfl rfl (by kernel_rfl) Try.func4 (by kernel_rfl)
    (of_decide_eq_true (by kernel_rfl)) (by unfold Func.isWrapper; first | (rw [if_pos (by decide +kernel)]; kernel_rfl) | (rw [if_neg (by decide +kernel)]; exact ⟨rfl, rfl⟩))
    (fun os started H enc _ => plicClaims_lifted os started H enc)
#print axioms plicClaims_holds
end Go.Proofs.Ytaieimjeffedhaa

/- The row of the law WalkWalks: it answers true, whatever its arguments. -/
import Derived.Test.YtkbcfbehebbmhaaGreatPlWkW
import Derived.Test.YtkbcfbehebbmhaaGreatWazRuns
import Derived.Test.YtkbcfbehebbmhaaGreatWazRows0
set_option linter.unusedSimpArgs false
set_option linter.unusedVariables false
set_option linter.unnecessarySimpa false
namespace Go.Proofs.YtkbcfbehebbmhaaGreat
open Go Go.Sx Go.ChangeShapes Go.WideShapes Go.ChangeAt Go.RowKit
set_option maxRecDepth 100000
theorem walkWalks_lifted (os : Os) (started : os.Started) (H : Type) (enc : TypeId × Value → H) :
    ReturnsInHanded {} Tryz.checked os 3 .any (Rows.walkWalksSpec.pre6 enc Tryz.prog Tryz.f3 Rows.walkWalksRow.domain false) (Rows.walkWalksSpec.post enc Tryz.prog Tryz.f3 false true false false) := by
  refine returnsInHanded_of_change (C := Tryz.checked) own started (by kernel_rfl) Tryz.func3
    (ChangeSpec.witness6 (enc := enc) (C := Tryz.checked) false ⟨#[], #[.slice none 0 0, .slice none 0 0], []⟩ 8 (by kernel_rfl) (by kernel_rfl) (by kernel_rfl) (by kernel_rfl)) ?_
  intro W base args ds gs before hval0 hW hcnd _
  have hval : ∀ (j : Nat) t v, Tryz.f3.params[j]? = some t → args[j]? = some v → Value.okWide Tryz.prog W .any base t v := hval0
  obtain ⟨p, q, hA, _⟩ := id hW
  obtain ⟨L, hL, hsh⟩ := ags_open (ss := [.rw [.int .i64, .int .u64], .rw [.int .u64, .int .u64, .int .u64, .int .i64, .int .i64]]) (by kernel_rfl) hA (fun j t v ht hv => hval j t v (by simpa using ht) (by simpa using hv))
  obtain ⟨a0, _, rfl, h0, a1, _, rfl, h1, rfl⟩ := hsh
  obtain ⟨s0, rfl, k0⟩ := agIs_rw h0
  obtain ⟨s1, rfl, k1⟩ := agIs_rw h1
  cases s0 with
  | nil =>
    cases s1 with
    | nil =>
      refine ends_true (tb := 4) hW rfl (by kernel_rfl) (by kernel_rfl) (fun ds hd => ?_) laidOut (by kernel_rfl) (calls_trueR snd_3 Tryz.func3 (F := F3) W hL (run_3_nn.trans walkWalks_nn) (hF := fok_3))
      match ds, hd with
      | [d0, d1], _ => rfl
    | row kk aq =>
      refine ends_true (tb := 4) hW rfl (by kernel_rfl) (by kernel_rfl) (fun ds hd => ?_) laidOut (by kernel_rfl) (calls_trueR snd_3 Tryz.func3 (F := F3) W hL ((run_3_nr kk aq).trans (walkWalks_nr kk aq (k1 _ _ rfl).1 (k1 _ _ rfl).2.1 (k1 _ _ rfl).2.2)) (hF := fok_3))
      match ds, hd with
      | [d0, d1], _ => rfl
  | row k ws =>
    cases s1 with
    | nil =>
      refine ends_true (tb := 4) hW rfl (by kernel_rfl) (by kernel_rfl) (fun ds hd => ?_) laidOut (by kernel_rfl) (calls_trueR snd_3 Tryz.func3 (F := F3) W hL ((run_3_rn k ws).trans (walkWalks_rn k ws (k0 _ _ rfl).1 (k0 _ _ rfl).2.1 (k0 _ _ rfl).2.2)) (hF := fok_3))
      match ds, hd with
      | [d0, d1], _ => rfl
    | row kk aq =>
      refine ends_true (tb := 4) hW rfl (by kernel_rfl) (by kernel_rfl) (fun ds hd => ?_) laidOut (by kernel_rfl) (calls_trueR snd_3 Tryz.func3 (F := F3) W hL ((run_3_rr k ws kk aq).trans (walkWalks_rr k ws kk aq (k0 _ _ rfl).1 (k0 _ _ rfl).2.1 (k0 _ _ rfl).2.2 (k1 _ _ rfl).1 (k1 _ _ rfl).2.1 (k1 _ _ rfl).2.2)) (hF := fok_3))
      match ds, hd with
      | [d0, d1], _ => rfl

theorem walkWalks_holds : Rows.WalkWalksSaid :=
  OpenClaim.holds_of_wide 3 Tryz.f3 rfl rfl rfl rfl rfl rfl rfl ⟨rfl, rfl, rfl, rfl, rfl⟩ rfl rfl rfl rfl rfl (by kernel_rfl) Tryz.func3 (by kernel_rfl)
    (of_decide_eq_true (by kernel_rfl)) (by unfold Func.isWrapper; first | (rw [if_pos (by decide +kernel)]; kernel_rfl) | (rw [if_neg (by decide +kernel)]; exact ⟨rfl, rfl⟩))
    (fun os started H enc _ => walkWalks_lifted os started H enc)
#print axioms walkWalks_holds
end Go.Proofs.YtkbcfbehebbmhaaGreat

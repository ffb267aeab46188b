/- The row of the law WalkPages: it answers true, whatever its arguments. -/
import Derived.Test.YtkbcfbehebbmhaaPlWkP
import Derived.Test.YtkbcfbehebbmhaaWapRuns
import Derived.Test.YtkbcfbehebbmhaaWapRows0
set_option linter.unusedSimpArgs false
set_option linter.unusedVariables false
set_option linter.unnecessarySimpa false
namespace Go.Proofs.Ytkbcfbehebbmhaa
open Go Go.Sx Go.ChangeShapes Go.WideShapes Go.ChangeAt Go.RowKit
set_option maxRecDepth 100000
theorem walkPages_lifted (os : Os) (started : os.Started) (H : Type) (enc : TypeId × Value → H) :
    ReturnsInHanded {} Try.checked os 6 .any (Rows.walkPagesSpec.pre6 enc Try.prog Try.f6 Rows.walkPagesRow.domain false) (Rows.walkPagesSpec.post enc Try.prog Try.f6 false true false false) := by
  refine returnsInHanded_of_change (C := Try.checked) own started (by kernel_rfl) Try.func6
    (ChangeSpec.witness6 (enc := enc) (C := Try.checked) false ⟨#[], #[.slice none 0 0, .agg #[.int .u64 0, .int .u64 0, .int .u64 0, .int .i64 0, .int .i64 0], .int .u64 0], []⟩ 8 (by kernel_rfl) (by kernel_rfl) (by kernel_rfl) (by kernel_rfl)) ?_
  intro W base args ds gs before hval0 hW hcnd _
  have hval : ∀ (j : Nat) t v, Try.f6.params[j]? = some t → args[j]? = some v → Value.okWide Try.prog W .any base t v := hval0
  obtain ⟨p, q, hA, _⟩ := id hW
  obtain ⟨L, hL, hsh⟩ := ags_open (ss := [.rw [.int .i64, .int .u64], .val (.row [some .u64, some .u64, some .u64, some .i64, some .i64]), .val (.sc (some .u64))]) (by kernel_rfl) hA (fun j t v ht hv => hval j t v (by simpa using ht) (by simpa using hv))
  obtain ⟨a0, _, rfl, h0, a1, _, rfl, h1, a2, _, rfl, h2, rfl⟩ := hsh
  obtain ⟨s0, rfl, k0⟩ := agIs_rw h0
  obtain ⟨v1, rfl, h1⟩ := agIs_val h1
  obtain ⟨r1, rfl, _, _, rfl, ⟨a_0, rfl⟩, _, _, rfl, ⟨a_1, rfl⟩, _, _, rfl, ⟨a_2, rfl⟩, _, _, rfl, ⟨a_3, rfl⟩, _, _, rfl, ⟨a_4, rfl⟩, rfl⟩ := h1
  obtain ⟨v2, rfl, h2⟩ := agIs_val h2
  obtain ⟨x, rfl⟩ := h2
  cases s0 with
  | nil =>
    refine ends_true (tb := 4) hW rfl (by kernel_rfl) (by kernel_rfl) (fun ds hd => ?_) laidOut (by kernel_rfl) (calls_trueR snd_6 Try.func6 (F := F6) W hL ((run_6_n a_0 a_1 a_2 a_3 a_4 x).trans (walkPages_n a_0 a_1 a_2 a_3 a_4 x)))
    match ds, hd with
    | [d0, d1, d2], _ => rfl
  | row k ws =>
    refine ends_true (tb := 4) hW rfl (by kernel_rfl) (by kernel_rfl) (fun ds hd => ?_) laidOut (by kernel_rfl) (calls_trueR snd_6 Try.func6 (F := F6) W hL ((run_6_r k ws a_0 a_1 a_2 a_3 a_4 x).trans (walkPages_r k ws a_0 a_1 a_2 a_3 a_4 x (k0 _ _ rfl).1 (k0 _ _ rfl).2.1 (k0 _ _ rfl).2.2)))
    match ds, hd with
    | [d0, d1, d2], _ => rfl

theorem walkPages_holds : Rows.WalkPagesSaid :=
  OpenClaim.holds_of_wide 6 Try.f6 rfl rfl rfl rfl rfl rfl rfl ⟨rfl, rfl, rfl, rfl, rfl⟩ rfl rfl rfl rfl rfl (by kernel_rfl) Try.func6 (by kernel_rfl)
    (of_decide_eq_true (by kernel_rfl)) (by unfold Func.isWrapper; first | (rw [if_pos (by decide +kernel)]; kernel_rfl) | (rw [if_neg (by decide +kernel)]; exact ⟨rfl, rfl⟩))
    (fun os started H enc _ => walkPages_lifted os started H enc)
#print axioms walkPages_holds
end Go.Proofs.Ytkbcfbehebbmhaa

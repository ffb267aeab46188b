/- The row of the law RamPlays: it answers true, whatever its arguments. -/
import Derived.Test.YtonehcpccklkoaaPlRamQ
import Derived.Test.YtonehcpccklkoaaRamRuns
import Derived.Test.YtonehcpccklkoaaRamRows0
set_option linter.unusedSimpArgs false
set_option linter.unusedVariables false
set_option linter.unnecessarySimpa false
namespace Go.Proofs.Ytonehcpccklkoaa
open Go Go.Sx Go.ChangeShapes Go.WideShapes Go.ChangeAt Go.RowKit
set_option maxRecDepth 100000
theorem ramPlays_lifted (os : Os) (started : os.Started) (H : Type) (enc : TypeId × Value → H) :
    ReturnsInHanded {} Try.checked os 6 .any (Rows.ramPlaysSpec.pre6 enc Try.prog Try.f6 Rows.ramPlaysRow.domain false) (Rows.ramPlaysSpec.post enc Try.prog Try.f6 false true false false) := by
  refine returnsInHanded_of_change (C := Try.checked) own started (by kernel_rfl) Try.func6
    (ChangeSpec.witness6 (enc := enc) (C := Try.checked) false ⟨#[], #[.int .i64 0, .slice none 0 0], []⟩ 8 (by kernel_rfl) (by kernel_rfl) (by kernel_rfl) (by kernel_rfl)) ?_
  intro W base args ds gs before hval0 hW hcnd _
  have hval : ∀ (j : Nat) t v, Try.f6.params[j]? = some t → args[j]? = some v → Value.okWide Try.prog W .any base t v := hval0
  obtain ⟨p, q, hA, _⟩ := id hW
  obtain ⟨L, hL, hsh⟩ := ags_open (ss := [.val (.sc (some .i64)), .rw [.int .i64, .int .i64, .int .i64, .bool, .int .u64, .int .u64]]) (by kernel_rfl) hA (fun j t v ht hv => hval j t v (by simpa using ht) (by simpa using hv))
  obtain ⟨a0, _, rfl, h0, a1, _, rfl, h1, rfl⟩ := hsh
  obtain ⟨v0, rfl, h0⟩ := agIs_val h0
  obtain ⟨n, rfl⟩ := h0
  obtain ⟨s1, rfl, k1⟩ := agIs_rw h1
  cases s1 with
  | nil =>
    refine ends_true (tb := 4) hW rfl (by kernel_rfl) (by kernel_rfl) (fun ds hd => ?_) laidOut (by kernel_rfl) (calls_trueR snd_6 Try.func6 (F := F6) W hL ((run_6_n n).trans (ramPlays_n n)) (hF := fok_6))
    match ds, hd with
    | [d0, d1], _ => rfl
  | row k d =>
    refine ends_true (tb := 4) hW rfl (by kernel_rfl) (by kernel_rfl) (fun ds hd => ?_) laidOut (by kernel_rfl) (calls_trueR snd_6 Try.func6 (F := F6) W hL ((run_6_r n k d).trans (ramPlays_r n k d (k1 _ _ rfl).1 (k1 _ _ rfl).2.1 (k1 _ _ rfl).2.2)) (hF := fok_6))
    match ds, hd with
    | [d0, d1], _ => rfl

theorem ramPlays_holds : Rows.RamPlaysSaid :=
  OpenClaim.holds_of_wide 6 Try.f6 rfl rfl rfl rfl rfl rfl rfl ⟨rfl, rfl, rfl, rfl, rfl⟩ rfl rfl rfl rfl rfl (by kernel_rfl) Try.func6 (by kernel_rfl)
    (of_decide_eq_true (by kernel_rfl)) (by unfold Func.isWrapper; first | (rw [if_pos (by decide +kernel)]; kernel_rfl) | (rw [if_neg (by decide +kernel)]; exact ⟨rfl, rfl⟩))
    (fun os started H enc _ => ramPlays_lifted os started H enc)
#print axioms ramPlays_holds
end Go.Proofs.Ytonehcpccklkoaa

/- The row of the law PlicOnce: it answers true, whatever its arguments. -/
import Derived.Test.YtaieimjeffedhaaPlPlc8
import Derived.Test.YtaieimjeffedhaaPlcRuns
import Derived.Test.YtaieimjeffedhaaPlcRows0
set_option linter.unusedSimpArgs false
set_option linter.unusedVariables false
set_option linter.unnecessarySimpa false
namespace Go.Proofs.Ytaieimjeffedhaa
open Go Go.Sx Go.ChangeShapes Go.WideShapes Go.ChangeAt Go.RowKit
set_option maxRecDepth 100000
theorem plicOnce_lifted (os : Os) (started : os.Started) (H : Type) (enc : TypeId × Value → H) :
    ReturnsInHanded {} Try.checked os 5 .any (Rows.plicOnceSpec.pre6 enc Try.prog Try.f5 Rows.plicOnceRow.domain false) (Rows.plicOnceSpec.post enc Try.prog Try.f5 false true false false) := by
  refine returnsInHanded_of_change (C := Try.checked) own started (by kernel_rfl) Try.func5
    (ChangeSpec.witness6 (enc := enc) (C := Try.checked) false ⟨#[], #[.slice none 0 0, .bool false, .slice none 0 0], []⟩ 8 (by kernel_rfl) (by kernel_rfl) (by kernel_rfl) (by kernel_rfl)) ?_
  intro W base args ds gs before hval0 hW hcnd _
  have hval : ∀ (j : Nat) t v, Try.f5.params[j]? = some t → args[j]? = some v → Value.okWide Try.prog W .any base t v := hval0
  obtain ⟨p, q, hA, _⟩ := id hW
  obtain ⟨L, hL, hsh⟩ := ags_open (ss := [.rw [.int .i64, .int .i64, .int .i64, .int .u64, .int .u32], .val (.sc none), .rw [.int .u32]]) (by kernel_rfl) hA (fun j t v ht hv => hval j t v (by simpa using ht) (by simpa using hv))
  obtain ⟨a0, _, rfl, h0, a1, _, rfl, h1, a2, _, rfl, h2, rfl⟩ := hsh
  obtain ⟨s0, rfl, k0⟩ := agIs_rw h0
  obtain ⟨v1, rfl, h1⟩ := agIs_val h1
  obtain ⟨second, rfl⟩ := h1
  obtain ⟨s2, rfl, k2⟩ := agIs_rw h2
  cases s0 with
  | nil =>
    cases s2 with
    | nil =>
      refine ends_true (tb := 4) hW rfl (by kernel_rfl) (by kernel_rfl) (fun ds hd => ?_) laidOut (by kernel_rfl) (calls_trueR snd_5 Try.func5 (F := F5n) W hL ((run_5_nn second).trans (plicOnce_nn second)))
      match ds, hd with
      | [d0, d1, d2], _ => rfl
    | row k e =>
      refine ends_true (tb := 4) hW rfl (by kernel_rfl) (by kernel_rfl) (fun ds hd => ?_) laidOut (by kernel_rfl) (calls_trueR snd_5 Try.func5 (F := F5) W hL ((run_5_nr second k e).trans (plicOnce_nr second k e (k2 _ _ rfl).1 (k2 _ _ rfl).2.1 (k2 _ _ rfl).2.2)) (hF := fok_5))
      match ds, hd with
      | [d0, d1, d2], _ => rfl
  | row n d =>
    cases s2 with
    | nil =>
      refine ends_true (tb := 4) hW rfl (by kernel_rfl) (by kernel_rfl) (fun ds hd => ?_) laidOut (by kernel_rfl) (calls_trueR snd_5 Try.func5 (F := F5n) W hL ((run_5_rn n d second).trans (plicOnce_rn n d second (k0 _ _ rfl).1 (k0 _ _ rfl).2.1 (k0 _ _ rfl).2.2)))
      match ds, hd with
      | [d0, d1, d2], _ => rfl
    | row k e =>
      refine ends_true (tb := 4) hW rfl (by kernel_rfl) (by kernel_rfl) (fun ds hd => ?_) laidOut (by kernel_rfl) (calls_trueR snd_5 Try.func5 (F := F5) W hL ((run_5_rr n d second k e).trans (plicOnce_rr n d second k e (k0 _ _ rfl).1 (k0 _ _ rfl).2.1 (k0 _ _ rfl).2.2 (k2 _ _ rfl).1 (k2 _ _ rfl).2.1 (k2 _ _ rfl).2.2)) (hF := fok_5))
      match ds, hd with
      | [d0, d1, d2], _ => rfl

theorem plicOnce_holds : Rows.PlicOnceSaid :=
  OpenClaim.holds_of_wide 5 Try.f5 rfl rfl rfl rfl rfl rfl rfl ⟨rfl, rfl, rfl, rfl, rfl⟩ rfl rfl rfl rfl rfl (by kernel_rfl) Try.func5 (by kernel_rfl)
    (of_decide_eq_true (by kernel_rfl)) (by unfold Func.isWrapper; first | (rw [if_pos (by decide +kernel)]; kernel_rfl) | (rw [if_neg (by decide +kernel)]; exact ⟨rfl, rfl⟩))
    (fun os started H enc _ => plicOnce_lifted os started H enc)
#print axioms plicOnce_holds
end Go.Proofs.Ytaieimjeffedhaa

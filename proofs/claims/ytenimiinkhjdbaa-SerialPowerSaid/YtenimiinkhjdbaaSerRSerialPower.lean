/- The row of the law SerialPower: it answers true, whatever its arguments. -/
import Derived.Test.YtenimiinkhjdbaaPlSer
import Derived.Test.YtenimiinkhjdbaaSerRuns
import Derived.Test.YtenimiinkhjdbaaSerRows0
set_option linter.unusedSimpArgs false
set_option linter.unusedVariables false
set_option linter.unnecessarySimpa false
namespace Go.Proofs.Ytenimiinkhjdbaa
open Go Go.Sx Go.ChangeShapes Go.WideShapes Go.ChangeAt Go.RowKit
set_option maxRecDepth 100000
theorem serialPower_lifted (os : Os) (started : os.Started) (H : Type) (enc : TypeId × Value → H) :
    ReturnsInHanded {} Try.checked os 6 .any (Rows.serialPowerSpec.pre6 enc Try.prog Try.f6 Rows.serialPowerRow.domain false) (Rows.serialPowerSpec.post enc Try.prog Try.f6 false true false false) := by
  refine returnsInHanded_of_change (C := Try.checked) own started (by kernel_rfl) Try.func6
    (ChangeSpec.witness6 (enc := enc) (C := Try.checked) false ⟨#[], #[.int .i64 0, .int .i64 0, .int .u64 0, .slice none 0 0], []⟩ 8 (by kernel_rfl) (by kernel_rfl) (by kernel_rfl) (by kernel_rfl)) ?_
  intro W base args ds gs before hval0 hW hcnd _
  have hval : ∀ (j : Nat) t v, Try.f6.params[j]? = some t → args[j]? = some v → Value.okWide Try.prog W .any base t v := hval0
  obtain ⟨p, q, hA, _⟩ := id hW
  obtain ⟨L, hL, hsh⟩ := ags_open (ss := [.val (.sc (some .i64)), .val (.sc (some .i64)), .val (.sc (some .u64)), .rw [.int .u64]]) (by kernel_rfl) hA (fun j t v ht hv => hval j t v (by simpa using ht) (by simpa using hv))
  obtain ⟨a0, _, rfl, h0, a1, _, rfl, h1, a2, _, rfl, h2, a3, _, rfl, h3, rfl⟩ := hsh
  obtain ⟨v0, rfl, h0⟩ := agIs_val h0
  obtain ⟨off, rfl⟩ := h0
  obtain ⟨v1, rfl, h1⟩ := agIs_val h1
  obtain ⟨size, rfl⟩ := h1
  obtain ⟨v2, rfl, h2⟩ := agIs_val h2
  obtain ⟨v, rfl⟩ := h2
  obtain ⟨s3, rfl, k3⟩ := agIs_rw h3
  cases s3 with
  | nil =>
    refine ends_true (tb := 4) hW rfl (by kernel_rfl) (by kernel_rfl) (fun ds hd => ?_) laidOut (by kernel_rfl) (calls_trueR snd_6 Try.func6 (F := F6) W hL ((run_6_n off size v).trans (serialPower_n off size v)) (hF := fok_6))
    match ds, hd with
    | [d0, d1, d2, d3], _ => rfl
  | row n d =>
    refine ends_true (tb := 4) hW rfl (by kernel_rfl) (by kernel_rfl) (fun ds hd => ?_) laidOut (by kernel_rfl) (calls_trueR snd_6 Try.func6 (F := F6) W hL ((run_6_r off size v n d).trans (serialPower_r off size v n d (k3 _ _ rfl).1 (k3 _ _ rfl).2.1 (k3 _ _ rfl).2.2)) (hF := fok_6))
    match ds, hd with
    | [d0, d1, d2, d3], _ => rfl

theorem serialPower_holds : Rows.SerialPowerSaid :=
  OpenClaim.holds_of_wide 6 Try.f6 rfl rfl rfl rfl rfl rfl rfl ⟨rfl, rfl, rfl, rfl, rfl⟩ rfl rfl rfl rfl rfl (by kernel_rfl) Try.func6 (by kernel_rfl)
    (of_decide_eq_true (by kernel_rfl)) (by unfold Func.isWrapper; first | (rw [if_pos (by decide +kernel)]; kernel_rfl) | (rw [if_neg (by decide +kernel)]; exact ⟨rfl, rfl⟩))
    (fun os started H enc _ => serialPower_lifted os started H enc)
#print axioms serialPower_holds
end Go.Proofs.Ytenimiinkhjdbaa

/- The row of the law BusCaps: it answers true, whatever its arguments. -/
import Derived.Test.YtkniemlelilbdaaPlBusC
import Derived.Test.YtkniemlelilbdaaBucRuns
import Derived.Test.YtkniemlelilbdaaBucRows0
set_option linter.unusedSimpArgs false
set_option linter.unusedVariables false
set_option linter.unnecessarySimpa false
namespace Go.Proofs.Ytkniemlelilbdaa
open Go Go.Sx Go.ChangeShapes Go.WideShapes Go.ChangeAt Go.RowKit
set_option maxRecDepth 100000
theorem busCaps_lifted (os : Os) (started : os.Started) (H : Type) (enc : TypeId × Value → H) :
    ReturnsInHanded {} Try.checked os 5 .any (Rows.busCapsSpec.pre6 enc Try.prog Try.f5 Rows.busCapsRow.domain false) (Rows.busCapsSpec.post enc Try.prog Try.f5 false true false false) := by
  refine returnsInHanded_of_change (C := Try.checked) own started (by kernel_rfl) Try.func5
    (ChangeSpec.witness6 (enc := enc) (C := Try.checked) false ⟨#[], #[.agg #[.bool false, .int .i64 0, .int .i64 0, .int .i64 0, .int .i64 0, .int .i64 0, .int .i64 0, .bool false, .int .u64 0], .agg #[.bool false, .int .i64 0, .int .i64 0, .int .i64 0, .int .i64 0, .int .i64 0, .int .i64 0, .bool false, .int .u64 0], .int .u64 0, .int .u64 0, .int .u64 0], []⟩ 8 (by kernel_rfl) (by kernel_rfl) (by kernel_rfl) (by kernel_rfl)) ?_
  intro W base args ds gs before hval0 hW hcnd _
  have hval : ∀ (j : Nat) t v, Try.f5.params[j]? = some t → args[j]? = some v → Value.okWide Try.prog W .any base t v := hval0
  obtain ⟨p, q, hA, _⟩ := id hW
  obtain ⟨L, hL, hsh⟩ := ags_open (ss := [.val (.row [none, some .i64, some .i64, some .i64, some .i64, some .i64, some .i64, none, some .u64]), .val (.row [none, some .i64, some .i64, some .i64, some .i64, some .i64, some .i64, none, some .u64]), .val (.sc (some .u64)), .val (.sc (some .u64)), .val (.sc (some .u64))]) (by kernel_rfl) hA (fun j t v ht hv => hval j t v (by simpa using ht) (by simpa using hv))
  obtain ⟨a0, _, rfl, h0, a1, _, rfl, h1, a2, _, rfl, h2, a3, _, rfl, h3, a4, _, rfl, h4, rfl⟩ := hsh
  obtain ⟨v0, rfl, h0⟩ := agIs_val h0
  obtain ⟨r0, rfl, g0⟩ := h0
  obtain ⟨c, c0⟩ := isCp g0
  simp only [Cp.av, AV.agg.injEq] at c0
  subst c0
  obtain ⟨v1, rfl, h1⟩ := agIs_val h1
  obtain ⟨r1, rfl, g1⟩ := h1
  obtain ⟨d, c1⟩ := isCp g1
  simp only [Cp.av, AV.agg.injEq] at c1
  subst c1
  obtain ⟨v2, rfl, h2⟩ := agIs_val h2
  obtain ⟨at_, rfl⟩ := h2
  obtain ⟨v3, rfl, h3⟩ := agIs_val h3
  obtain ⟨k, rfl⟩ := h3
  obtain ⟨v4, rfl, h4⟩ := agIs_val h4
  obtain ⟨v, rfl⟩ := h4
  refine ends_true (tb := 4) hW rfl (by kernel_rfl) (by kernel_rfl) (fun ds hd => ?_) laidOut (by kernel_rfl) (calls_trueR snd_5 Try.func5 (F := F5) W hL ((run_5_x c d at_ k v).trans (busCaps_x c d at_ k v)))
  match ds, hd with
  | [d0, d1, d2, d3, d4], _ => rfl

theorem busCaps_holds : Rows.BusCapsSaid :=
  OpenClaim.holds_of_wide 5 Try.f5 rfl rfl rfl rfl rfl rfl rfl ⟨rfl, rfl, rfl, rfl, rfl⟩ rfl rfl rfl rfl rfl (by kernel_rfl) Try.func5 (by kernel_rfl)
    (of_decide_eq_true (by kernel_rfl)) (by unfold Func.isWrapper; first | (rw [if_pos (by decide +kernel)]; kernel_rfl) | (rw [if_neg (by decide +kernel)]; exact ⟨rfl, rfl⟩))
    (fun os started H enc _ => busCaps_lifted os started H enc)
#print axioms busCaps_holds
end Go.Proofs.Ytkniemlelilbdaa

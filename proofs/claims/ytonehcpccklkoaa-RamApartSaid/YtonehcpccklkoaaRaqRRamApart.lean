/- The row of the law RamApart: it answers true, whatever its arguments. -/
import Derived.Test.YtonehcpccklkoaaPlRamPQ
import Derived.Test.YtonehcpccklkoaaRaqRuns
import Derived.Test.YtonehcpccklkoaaRaqRows0
set_option linter.unusedSimpArgs false
set_option linter.unusedVariables false
set_option linter.unnecessarySimpa false
namespace Go.Proofs.Ytonehcpccklkoaa
open Go Go.Sx Go.ChangeShapes Go.WideShapes Go.ChangeAt Go.RowKit
set_option maxRecDepth 100000
theorem ramApart_lifted (os : Os) (started : os.Started) (H : Type) (enc : TypeId × Value → H) :
    ReturnsInHanded {} Try.checked os 5 .any (Rows.ramApartSpec.pre6 enc Try.prog Try.f5 Rows.ramApartRow.domain false) (Rows.ramApartSpec.post enc Try.prog Try.f5 false true false false) := by
  refine returnsInHanded_of_change (C := Try.checked) own started (by kernel_rfl) Try.func5
    (ChangeSpec.witness6 (enc := enc) (C := Try.checked) false ⟨#[], #[.agg #[.int .i64 0, .int .i64 0, .int .i64 0, .bool false, .int .u64 0, .int .u64 0], .agg #[.int .i64 0, .int .i64 0, .int .i64 0, .bool false, .int .u64 0, .int .u64 0]], []⟩ 8 (by kernel_rfl) (by kernel_rfl) (by kernel_rfl) (by kernel_rfl)) ?_
  intro W base args ds gs before hval0 hW hcnd _
  have hval : ∀ (j : Nat) t v, Try.f5.params[j]? = some t → args[j]? = some v → Value.okWide Try.prog W .any base t v := hval0
  obtain ⟨p, q, hA, _⟩ := id hW
  obtain ⟨L, hL, hsh⟩ := ags_open (ss := [.val (.row [some .i64, some .i64, some .i64, none, some .u64, some .u64]), .val (.row [some .i64, some .i64, some .i64, none, some .u64, some .u64])]) (by kernel_rfl) hA (fun j t v ht hv => hval j t v (by simpa using ht) (by simpa using hv))
  obtain ⟨a0, _, rfl, h0, a1, _, rfl, h1, rfl⟩ := hsh
  obtain ⟨v0, rfl, h0⟩ := agIs_val h0
  obtain ⟨r0, rfl, _, _, rfl, ⟨a_0, rfl⟩, _, _, rfl, ⟨a_1, rfl⟩, _, _, rfl, ⟨a_2, rfl⟩, _, _, rfl, ⟨a_3, rfl⟩, _, _, rfl, ⟨a_4, rfl⟩, _, _, rfl, ⟨a_5, rfl⟩, rfl⟩ := h0
  obtain ⟨v1, rfl, h1⟩ := agIs_val h1
  obtain ⟨r1, rfl, _, _, rfl, ⟨b_0, rfl⟩, _, _, rfl, ⟨b_1, rfl⟩, _, _, rfl, ⟨b_2, rfl⟩, _, _, rfl, ⟨b_3, rfl⟩, _, _, rfl, ⟨b_4, rfl⟩, _, _, rfl, ⟨b_5, rfl⟩, rfl⟩ := h1
  refine ends_true (tb := 4) hW rfl (by kernel_rfl) (by kernel_rfl) (fun ds hd => ?_) laidOut (by kernel_rfl) (calls_trueR snd_5 Try.func5 (F := F5) W hL ((run_5_x a_0 a_1 a_2 a_3 a_4 a_5 b_0 b_1 b_2 b_3 b_4 b_5).trans (ramApart_x a_0 a_1 a_2 a_3 a_4 a_5 b_0 b_1 b_2 b_3 b_4 b_5)) (hF := fok_5))
  match ds, hd with
  | [d0, d1], _ => rfl

theorem ramApart_holds : Rows.RamApartSaid :=
  OpenClaim.holds_of_wide 5 Try.f5 rfl rfl rfl rfl rfl rfl rfl ⟨rfl, rfl, rfl, rfl, rfl⟩ rfl rfl rfl rfl rfl (by kernel_rfl) Try.func5 (by kernel_rfl)
    (of_decide_eq_true (by kernel_rfl)) (by unfold Func.isWrapper; first | (rw [if_pos (by decide +kernel)]; kernel_rfl) | (rw [if_neg (by decide +kernel)]; exact ⟨rfl, rfl⟩))
    (fun os started H enc _ => ramApart_lifted os started H enc)
#print axioms ramApart_holds
end Go.Proofs.Ytonehcpccklkoaa

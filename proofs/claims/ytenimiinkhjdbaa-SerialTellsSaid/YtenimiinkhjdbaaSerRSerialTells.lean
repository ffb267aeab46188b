/- The row of the law SerialTells: it answers true, whatever its arguments. -/
import Derived.Test.YtenimiinkhjdbaaPlSer3
import Derived.Test.YtenimiinkhjdbaaSerRuns
import Derived.Test.YtenimiinkhjdbaaSerRows0
set_option linter.unusedSimpArgs false
set_option linter.unusedVariables false
set_option linter.unnecessarySimpa false
namespace Go.Proofs.Ytenimiinkhjdbaa
open Go Go.Sx Go.ChangeShapes Go.WideShapes Go.ChangeAt Go.RowKit
set_option maxRecDepth 100000
theorem serialTells_lifted (os : Os) (started : os.Started) (H : Type) (enc : TypeId × Value → H) :
    ReturnsInHanded {} Try.checked os 4 .any (Rows.serialTellsSpec.pre6 enc Try.prog Try.f4 Rows.serialTellsRow.domain false) (Rows.serialTellsSpec.post enc Try.prog Try.f4 false true false false) := by
  refine returnsInHanded_of_change (C := Try.checked) own started (by kernel_rfl) Try.func4
    (ChangeSpec.witness6 (enc := enc) (C := Try.checked) false ⟨#[], #[.slice none 0 0, .slice none 0 0, .slice none 0 0, .int .u8 0], []⟩ 8 (by kernel_rfl) (by kernel_rfl) (by kernel_rfl) (by kernel_rfl)) ?_
  intro W base args ds gs before hval0 hW hcnd _
  have hval : ∀ (j : Nat) t v, Try.f4.params[j]? = some t → args[j]? = some v → Value.okWide Try.prog W .any base t v := hval0
  obtain ⟨p, q, hA, _⟩ := id hW
  obtain ⟨L, hL, hsh⟩ := ags_open (ss := [.rw [.int .i64], .rw [.int .i64], .rw [.int .u64], .val (.sc (some .u8))]) (by kernel_rfl) hA (fun j t v ht hv => hval j t v (by simpa using ht) (by simpa using hv))
  obtain ⟨a0, _, rfl, h0, a1, _, rfl, h1, a2, _, rfl, h2, a3, _, rfl, h3, rfl⟩ := hsh
  obtain ⟨s0, rfl, k0⟩ := agIs_rw h0
  obtain ⟨s1, rfl, k1⟩ := agIs_rw h1
  obtain ⟨s2, rfl, k2⟩ := agIs_rw h2
  obtain ⟨v3, rfl, h3⟩ := agIs_val h3
  obtain ⟨came, rfl⟩ := h3
  cases s0 with
  | nil =>
    cases s1 with
    | nil =>
      cases s2 with
      | nil =>
        refine ends_true (tb := 4) hW rfl (by kernel_rfl) (by kernel_rfl) (fun ds hd => ?_) laidOut (by kernel_rfl) (calls_trueR snd_4 Try.func4 (F := F4n) W hL ((run_4_nnn came).trans (serialTells_nnn came)))
        match ds, hd with
        | [d0, d1, d2, d3], _ => rfl
      | row n2 d2 =>
        refine ends_true (tb := 4) hW rfl (by kernel_rfl) (by kernel_rfl) (fun ds hd => ?_) laidOut (by kernel_rfl) (calls_trueR snd_4 Try.func4 (F := F4n) W hL ((run_4_nnr n2 d2 came).trans (serialTells_nnr n2 d2 came (k2 _ _ rfl).1 (k2 _ _ rfl).2.1 (k2 _ _ rfl).2.2)))
        match ds, hd with
        | [d0, d1, d2, d3], _ => rfl
    | row n1 d1 =>
      cases s2 with
      | nil =>
        refine ends_true (tb := 4) hW rfl (by kernel_rfl) (by kernel_rfl) (fun ds hd => ?_) laidOut (by kernel_rfl) (calls_trueR snd_4 Try.func4 (F := F4n) W hL ((run_4_nrn n1 d1 came).trans (serialTells_nrn n1 d1 came (k1 _ _ rfl).1 (k1 _ _ rfl).2.1 (k1 _ _ rfl).2.2)))
        match ds, hd with
        | [d0, d1, d2, d3], _ => rfl
      | row n2 d2 =>
        refine ends_true (tb := 4) hW rfl (by kernel_rfl) (by kernel_rfl) (fun ds hd => ?_) laidOut (by kernel_rfl) (calls_trueR snd_4 Try.func4 (F := F4n) W hL ((run_4_nrr n1 d1 n2 d2 came).trans (serialTells_nrr n1 d1 n2 d2 came (k1 _ _ rfl).1 (k1 _ _ rfl).2.1 (k1 _ _ rfl).2.2 (k2 _ _ rfl).1 (k2 _ _ rfl).2.1 (k2 _ _ rfl).2.2)))
        match ds, hd with
        | [d0, d1, d2, d3], _ => rfl
  | row n0 d0 =>
    cases s1 with
    | nil =>
      cases s2 with
      | nil =>
        refine ends_true (tb := 4) hW rfl (by kernel_rfl) (by kernel_rfl) (fun ds hd => ?_) laidOut (by kernel_rfl) (calls_trueR snd_4 Try.func4 (F := F4n) W hL ((run_4_rnn n0 d0 came).trans (serialTells_rnn n0 d0 came (k0 _ _ rfl).1 (k0 _ _ rfl).2.1 (k0 _ _ rfl).2.2)))
        match ds, hd with
        | [d0, d1, d2, d3], _ => rfl
      | row n2 d2 =>
        refine ends_true (tb := 4) hW rfl (by kernel_rfl) (by kernel_rfl) (fun ds hd => ?_) laidOut (by kernel_rfl) (calls_trueR snd_4 Try.func4 (F := F4n) W hL ((run_4_rnr n0 d0 n2 d2 came).trans (serialTells_rnr n0 d0 n2 d2 came (k0 _ _ rfl).1 (k0 _ _ rfl).2.1 (k0 _ _ rfl).2.2 (k2 _ _ rfl).1 (k2 _ _ rfl).2.1 (k2 _ _ rfl).2.2)))
        match ds, hd with
        | [d0, d1, d2, d3], _ => rfl
    | row n1 d1 =>
      cases s2 with
      | nil =>
        refine ends_true (tb := 4) hW rfl (by kernel_rfl) (by kernel_rfl) (fun ds hd => ?_) laidOut (by kernel_rfl) (calls_trueR snd_4 Try.func4 (F := F4n) W hL ((run_4_rrn n0 d0 n1 d1 came).trans (serialTells_rrn n0 d0 n1 d1 came (k0 _ _ rfl).1 (k0 _ _ rfl).2.1 (k0 _ _ rfl).2.2 (k1 _ _ rfl).1 (k1 _ _ rfl).2.1 (k1 _ _ rfl).2.2)))
        match ds, hd with
        | [d0, d1, d2, d3], _ => rfl
      | row n2 d2 =>
        refine ends_true (tb := 4) hW rfl (by kernel_rfl) (by kernel_rfl) (fun ds hd => ?_) laidOut (by kernel_rfl) (calls_trueR snd_4 Try.func4 (F := F4) W hL ((run_4_rrr n0 d0 n1 d1 n2 d2 came).trans (serialTells_rrr n0 d0 n1 d1 n2 d2 came (k0 _ _ rfl).1 (k0 _ _ rfl).2.1 (k0 _ _ rfl).2.2 (k1 _ _ rfl).1 (k1 _ _ rfl).2.1 (k1 _ _ rfl).2.2 (k2 _ _ rfl).1 (k2 _ _ rfl).2.1 (k2 _ _ rfl).2.2)) (hF := fok_4))
        match ds, hd with
        | [d0, d1, d2, d3], _ => rfl

theorem serialTells_holds : Rows.SerialTellsSaid :=
  OpenClaim.holds_of_wide 4 Try.f4 rfl rfl rfl rfl rfl rfl rfl ⟨rfl, rfl, rfl, rfl, rfl⟩ rfl rfl rfl rfl rfl (by kernel_rfl) Try.func4 (by kernel_rfl)
    (of_decide_eq_true (by kernel_rfl)) (by unfold Func.isWrapper; first | (rw [if_pos (by decide +kernel)]; kernel_rfl) | (rw [if_neg (by decide +kernel)]; exact ⟨rfl, rfl⟩))
    (fun os started H enc _ => serialTells_lifted os started H enc)
#print axioms serialTells_holds
end Go.Proofs.Ytenimiinkhjdbaa

/-
  No cell of these rows narrows 'for every input' (looked for: loops, veiled, ifaces, maps, wideKeys, modest, calm, conditions, laid).
  DERIVED. THE GIVEN ROWS OF THIS SEAT. 4 by the template 'for every input the law returns true; each argument reads behind the call as it read before'; 0 by the template 'total and deterministic' (their statements: YtkbcfbehebbmhaaTotals.lean).
  GIVEN WITH THE SEED: the statements are not yours to turn. If you find one false, say at which input.
  Laid BY PROGRAM, IN A SANDBOX (cutbox-rows.mjs): the forced cells as the released guide's own fill.sh prints them over the translation 7d77685f95c136d7… (all of the seat's roots in one cut). By AI agents, Wed Nov 11 2026. No macro, syntax, notation, axiom, sorry.
-/
import Derived.Test.YtkbcfbehebbmhaaChecked
import GoSem.Claim
import GoSem.ClaimJoined
import GoSem.ClaimMapViews
import Derived.JoinedTies
import Derived.KernelRfl
namespace Go.Proofs.Ytkbcfbehebbmhaa
/- THE CELL 'sum', in the pinned program and in every row, IS THE sha256 OF THE DUMP (.gsa) THAT YtkbcfbehebbmhaaProg.lean LOADS. Nothing in Lean hashes anything: it is a label: what it is worth is what the hold of that sum in a sandbox is worth. -/
noncomputable def Try.pinned : Pinned := { name := "ytkbcfbehebbmhaa", sum := "7d77685f95c136d740c77fa1c7186d7b7bfde13141efaa79ed72437fd1cc98e7", checked := Try.checked }
namespace Rows
def none {H : Type} : Left H := { results := [], args := [] }

/-- 'ravelinlaw21.WalkAgain': WHATEVER THE INPUT: true; the input reads as it did. -/
def walkAgainSpec : ChangeSpec := { name := "walkAgain", fn := fun _ => fun
  | [d1, d2] => { results := [.lit (.bool true)], args := [d1, d2] }
  | _ => none }
def walkAgainRow : OpenClaim := { program := "ytkbcfbehebbmhaa", sum := "7d77685f95c136d740c77fa1c7186d7b7bfde13141efaa79ed72437fd1cc98e7", func := "ravelin/ravelinlaw21.WalkAgain", spec := "walkAgain", unfollowed := true, recurses := true, apart := false }
def WalkAgainSaid : Prop := walkAgainRow.holds Try.pinned (OpenSpec.ofChange walkAgainSpec)

/-- ITS FALSE NEIGHBOUR: 'it returns false'. Refute it at one input. -/
def walkAgainWrong : ChangeSpec := { name := "walkAgain", fn := fun _ => fun
  | [d1, d2] => { results := [.lit (.bool false)], args := [d1, d2] }
  | _ => none }
def WalkAgainWrongFalsely : Prop := walkAgainRow.holds Try.pinned (OpenSpec.ofChange walkAgainWrong)

/-- 'ravelinlaw21.WalkLeads': WHATEVER THE INPUT: true; the input reads as it did. -/
def walkLeadsSpec : ChangeSpec := { name := "walkLeads", fn := fun _ => fun
  | [d1, d2] => { results := [.lit (.bool true)], args := [d1, d2] }
  | _ => none }
def walkLeadsRow : OpenClaim := { program := "ytkbcfbehebbmhaa", sum := "7d77685f95c136d740c77fa1c7186d7b7bfde13141efaa79ed72437fd1cc98e7", func := "ravelin/ravelinlaw21.WalkLeads", spec := "walkLeads", unfollowed := true, recurses := true, apart := false }
def WalkLeadsSaid : Prop := walkLeadsRow.holds Try.pinned (OpenSpec.ofChange walkLeadsSpec)

/-- ITS FALSE NEIGHBOUR: 'it returns false'. Refute it at one input. -/
def walkLeadsWrong : ChangeSpec := { name := "walkLeads", fn := fun _ => fun
  | [d1, d2] => { results := [.lit (.bool false)], args := [d1, d2] }
  | _ => none }
def WalkLeadsWrongFalsely : Prop := walkLeadsRow.holds Try.pinned (OpenSpec.ofChange walkLeadsWrong)

/-- 'ravelinlaw21.WalkKnown': WHATEVER THE INPUT: true; the input reads as it did. -/
def walkKnownSpec : ChangeSpec := { name := "walkKnown", fn := fun _ => fun
  | [] => { results := [.lit (.bool true)], args := [] }
  | _ => none }
def walkKnownRow : OpenClaim := { program := "ytkbcfbehebbmhaa", sum := "7d77685f95c136d740c77fa1c7186d7b7bfde13141efaa79ed72437fd1cc98e7", func := "ravelin/ravelinlaw21.WalkKnown", spec := "walkKnown", unfollowed := true, recurses := true, apart := false }
def WalkKnownSaid : Prop := walkKnownRow.holds Try.pinned (OpenSpec.ofChange walkKnownSpec)

/-- ITS FALSE NEIGHBOUR: 'it returns false'. Refute it at one input. -/
def walkKnownWrong : ChangeSpec := { name := "walkKnown", fn := fun _ => fun
  | [] => { results := [.lit (.bool false)], args := [] }
  | _ => none }
def WalkKnownWrongFalsely : Prop := walkKnownRow.holds Try.pinned (OpenSpec.ofChange walkKnownWrong)

/-- 'ravelinlaw21.WalkPages': WHATEVER THE INPUT: true; the input reads as it did. -/
def walkPagesSpec : ChangeSpec := { name := "walkPages", fn := fun _ => fun
  | [d1, d2, d3] => { results := [.lit (.bool true)], args := [d1, d2, d3] }
  | _ => none }
def walkPagesRow : OpenClaim := { program := "ytkbcfbehebbmhaa", sum := "7d77685f95c136d740c77fa1c7186d7b7bfde13141efaa79ed72437fd1cc98e7", func := "ravelin/ravelinlaw21.WalkPages", spec := "walkPages", unfollowed := true, recurses := true, apart := false }
def WalkPagesSaid : Prop := walkPagesRow.holds Try.pinned (OpenSpec.ofChange walkPagesSpec)

/-- ITS FALSE NEIGHBOUR: 'it returns false'. Refute it at one input. -/
def walkPagesWrong : ChangeSpec := { name := "walkPages", fn := fun _ => fun
  | [d1, d2, d3] => { results := [.lit (.bool false)], args := [d1, d2, d3] }
  | _ => none }
def WalkPagesWrongFalsely : Prop := walkPagesRow.holds Try.pinned (OpenSpec.ofChange walkPagesWrong)

/- THE SECOND FORM. 'bulk': how many values and letters a reading holds, each counted each time it is reached (what is shared counts as often as it is met; a slice's spare places count too). A statement '..UptoSaid' is the law's where the arguments, and the package variables that the reading takes, are together of bulk at most 1048576: NARROWER than '..Said'. Prove '..Said' where nothing that the law and all that it calls make is longer than what came in: it says more and counts as full. Else prove '..UptoSaid'. A law counts once. -/
mutual
def uptoBulk {H : Type} : DataW H → Nat
  | .lit (.string bytes) => bytes.length + 1
  | .lit _ => 1
  | .nil => 1
  | .ptr d => uptoBulk d + 1
  | .slice elems spare => uptoBulkAll elems + uptoBulkAll spare + 1
  | .agg parts => uptoBulkAll parts + 1
  | .iface _ d => uptoBulk d + 1
  | .map entries => uptoBulkEntries entries + 1
  | .held _ => 1
def uptoBulkAll {H : Type} : List (DataW H) → Nat
  | [] => 0
  | d :: r => uptoBulk d + uptoBulkAll r
def uptoBulkEntries {H : Type} : List (Lit × DataW H) → Nat
  | [] => 0
  | x :: r => uptoBulkEntry x + uptoBulkEntries r
def uptoBulkEntry {H : Type} : Lit × DataW H → Nat
  | (.string bytes, d) => bytes.length + uptoBulk d + 1
  | (_, d) => uptoBulk d + 1
 end
def uptoSmall : (H : Type) → List (DataW H) → Bool := fun _ ds => decide (uptoBulkAll ds ≤ 1048576)
def OpenSpec.upto (s : _root_.Go.ChangeSpec) : _root_.Go.OpenSpec := { _root_.Go.OpenSpec.ofChange s with cond := some uptoSmall }

/-- 'ravelinlaw21.WalkAgain', WHERE WHAT IT READS IS OF BULK AT MOST 1048576: true; the input reads as it did. -/
def walkAgainUptoRow : OpenClaim := { program := "ytkbcfbehebbmhaa", sum := "7d77685f95c136d740c77fa1c7186d7b7bfde13141efaa79ed72437fd1cc98e7", func := "ravelin/ravelinlaw21.WalkAgain", spec := "walkAgain", unfollowed := true, recurses := true, apart := false, narrowed := true }
def WalkAgainUptoSaid : Prop := walkAgainUptoRow.holds Try.pinned (OpenSpec.upto walkAgainSpec)

/-- 'ravelinlaw21.WalkLeads', WHERE WHAT IT READS IS OF BULK AT MOST 1048576: true; the input reads as it did. -/
def walkLeadsUptoRow : OpenClaim := { program := "ytkbcfbehebbmhaa", sum := "7d77685f95c136d740c77fa1c7186d7b7bfde13141efaa79ed72437fd1cc98e7", func := "ravelin/ravelinlaw21.WalkLeads", spec := "walkLeads", unfollowed := true, recurses := true, apart := false, narrowed := true }
def WalkLeadsUptoSaid : Prop := walkLeadsUptoRow.holds Try.pinned (OpenSpec.upto walkLeadsSpec)

/-- 'ravelinlaw21.WalkKnown', WHERE WHAT IT READS IS OF BULK AT MOST 1048576: true; the input reads as it did. -/
def walkKnownUptoRow : OpenClaim := { program := "ytkbcfbehebbmhaa", sum := "7d77685f95c136d740c77fa1c7186d7b7bfde13141efaa79ed72437fd1cc98e7", func := "ravelin/ravelinlaw21.WalkKnown", spec := "walkKnown", unfollowed := true, recurses := true, apart := false, narrowed := true }
def WalkKnownUptoSaid : Prop := walkKnownUptoRow.holds Try.pinned (OpenSpec.upto walkKnownSpec)

/-- 'ravelinlaw21.WalkPages', WHERE WHAT IT READS IS OF BULK AT MOST 1048576: true; the input reads as it did. -/
def walkPagesUptoRow : OpenClaim := { program := "ytkbcfbehebbmhaa", sum := "7d77685f95c136d740c77fa1c7186d7b7bfde13141efaa79ed72437fd1cc98e7", func := "ravelin/ravelinlaw21.WalkPages", spec := "walkPages", unfollowed := true, recurses := true, apart := false, narrowed := true }
def WalkPagesUptoSaid : Prop := walkPagesUptoRow.holds Try.pinned (OpenSpec.upto walkPagesSpec)

end Rows
end Go.Proofs.Ytkbcfbehebbmhaa

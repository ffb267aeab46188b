/-
  No cell of these rows narrows 'for every input' (looked for: loops, veiled, ifaces, maps, wideKeys, modest, calm, conditions, laid).
  DERIVED. THE GIVEN ROWS OF THIS SEAT. 6 by the template 'for every input the law returns true; each argument reads behind the call as it read before'; 0 by the template 'total and deterministic' (their statements: YtpofnfcbgamhpaaTotals.lean).
  GIVEN WITH THE SEED: the statements are not yours to turn. If you find one false, say at which input.
  Laid BY PROGRAM, IN A SANDBOX (cutbox-rows.mjs): the forced cells as the released guide's own fill.sh prints them over the translation a7593e8d4f16a019… (all of the seat's roots in one cut). By AI agents, Wed Nov 11 2026. No macro, syntax, notation, axiom, sorry.
-/
import Derived.Test.YtpofnfcbgamhpaaChecked
import GoSem.Claim
import GoSem.ClaimJoined
import GoSem.ClaimMapViews
import Derived.JoinedTies
import Derived.KernelRfl
namespace Go.Proofs.Ytpofnfcbgamhpaa
/- THE CELL 'sum', in the pinned program and in every row, IS THE sha256 OF THE DUMP (.gsa) THAT YtpofnfcbgamhpaaProg.lean LOADS. Nothing in Lean hashes anything: it is a label: what it is worth is what the hold of that sum in a sandbox is worth. -/
noncomputable def Try.pinned : Pinned := { name := "ytpofnfcbgamhpaa", sum := "a7593e8d4f16a019f013b3d1c08be4852b6e1fedd05bbfe4be6ae8fc8110ec2d", checked := Try.checked }
namespace Rows
def none {H : Type} : Left H := { results := [], args := [] }

/-- 'ravelinlaw19.TrapDelegates': WHATEVER THE INPUT: true; the input reads as it did. -/
def trapDelegatesSpec : ChangeSpec := { name := "trapDelegates", fn := fun _ => fun
  | [d1, d2, d3] => { results := [.lit (.bool true)], args := [d1, d2, d3] }
  | _ => none }
def trapDelegatesRow : OpenClaim := { program := "ytpofnfcbgamhpaa", sum := "a7593e8d4f16a019f013b3d1c08be4852b6e1fedd05bbfe4be6ae8fc8110ec2d", func := "ravelin/ravelinlaw19.TrapDelegates", spec := "trapDelegates", inPlace := ["math/bits.Add64"], unfollowed := true, recurses := true, apart := false }
def TrapDelegatesSaid : Prop := trapDelegatesRow.holds Try.pinned (OpenSpec.ofChange trapDelegatesSpec)

/-- ITS FALSE NEIGHBOUR: 'it returns false'. Refute it at one input. -/
def trapDelegatesWrong : ChangeSpec := { name := "trapDelegates", fn := fun _ => fun
  | [d1, d2, d3] => { results := [.lit (.bool false)], args := [d1, d2, d3] }
  | _ => none }
def TrapDelegatesWrongFalsely : Prop := trapDelegatesRow.holds Try.pinned (OpenSpec.ofChange trapDelegatesWrong)

/-- 'ravelinlaw19.TrapKnown': WHATEVER THE INPUT: true; the input reads as it did. -/
def trapKnownSpec : ChangeSpec := { name := "trapKnown", fn := fun _ => fun
  | [] => { results := [.lit (.bool true)], args := [] }
  | _ => none }
def trapKnownRow : OpenClaim := { program := "ytpofnfcbgamhpaa", sum := "a7593e8d4f16a019f013b3d1c08be4852b6e1fedd05bbfe4be6ae8fc8110ec2d", func := "ravelin/ravelinlaw19.TrapKnown", spec := "trapKnown", inPlace := ["math/bits.Add64"], unfollowed := true, recurses := true, apart := false }
def TrapKnownSaid : Prop := trapKnownRow.holds Try.pinned (OpenSpec.ofChange trapKnownSpec)

/-- ITS FALSE NEIGHBOUR: 'it returns false'. Refute it at one input. -/
def trapKnownWrong : ChangeSpec := { name := "trapKnown", fn := fun _ => fun
  | [] => { results := [.lit (.bool false)], args := [] }
  | _ => none }
def TrapKnownWrongFalsely : Prop := trapKnownRow.holds Try.pinned (OpenSpec.ofChange trapKnownWrong)

/-- 'ravelinlaw19.TrapBack': WHATEVER THE INPUT: true; the input reads as it did. -/
def trapBackSpec : ChangeSpec := { name := "trapBack", fn := fun _ => fun
  | [d1, d2, d3, d4] => { results := [.lit (.bool true)], args := [d1, d2, d3, d4] }
  | _ => none }
def trapBackRow : OpenClaim := { program := "ytpofnfcbgamhpaa", sum := "a7593e8d4f16a019f013b3d1c08be4852b6e1fedd05bbfe4be6ae8fc8110ec2d", func := "ravelin/ravelinlaw19.TrapBack", spec := "trapBack", inPlace := ["math/bits.Add64"], unfollowed := true, recurses := true, apart := false }
def TrapBackSaid : Prop := trapBackRow.holds Try.pinned (OpenSpec.ofChange trapBackSpec)

/-- ITS FALSE NEIGHBOUR: 'it returns false'. Refute it at one input. -/
def trapBackWrong : ChangeSpec := { name := "trapBack", fn := fun _ => fun
  | [d1, d2, d3, d4] => { results := [.lit (.bool false)], args := [d1, d2, d3, d4] }
  | _ => none }
def TrapBackWrongFalsely : Prop := trapBackRow.holds Try.pinned (OpenSpec.ofChange trapBackWrong)

/-- 'ravelinlaw19.TrapMoves': WHATEVER THE INPUT: true; the input reads as it did. -/
def trapMovesSpec : ChangeSpec := { name := "trapMoves", fn := fun _ => fun
  | [d1, d2, d3, d4] => { results := [.lit (.bool true)], args := [d1, d2, d3, d4] }
  | _ => none }
def trapMovesRow : OpenClaim := { program := "ytpofnfcbgamhpaa", sum := "a7593e8d4f16a019f013b3d1c08be4852b6e1fedd05bbfe4be6ae8fc8110ec2d", func := "ravelin/ravelinlaw19.TrapMoves", spec := "trapMoves", inPlace := ["math/bits.Add64"], unfollowed := true, recurses := true, apart := false }
def TrapMovesSaid : Prop := trapMovesRow.holds Try.pinned (OpenSpec.ofChange trapMovesSpec)

/-- ITS FALSE NEIGHBOUR: 'it returns false'. Refute it at one input. -/
def trapMovesWrong : ChangeSpec := { name := "trapMoves", fn := fun _ => fun
  | [d1, d2, d3, d4] => { results := [.lit (.bool false)], args := [d1, d2, d3, d4] }
  | _ => none }
def TrapMovesWrongFalsely : Prop := trapMovesRow.holds Try.pinned (OpenSpec.ofChange trapMovesWrong)

/-- 'ravelinlaw19.TrapBits': WHATEVER THE INPUT: true; the input reads as it did. -/
def trapBitsSpec : ChangeSpec := { name := "trapBits", fn := fun _ => fun
  | [d1, d2, d3, d4] => { results := [.lit (.bool true)], args := [d1, d2, d3, d4] }
  | _ => none }
def trapBitsRow : OpenClaim := { program := "ytpofnfcbgamhpaa", sum := "a7593e8d4f16a019f013b3d1c08be4852b6e1fedd05bbfe4be6ae8fc8110ec2d", func := "ravelin/ravelinlaw19.TrapBits", spec := "trapBits", inPlace := ["math/bits.Add64"], unfollowed := true, recurses := true, apart := false }
def TrapBitsSaid : Prop := trapBitsRow.holds Try.pinned (OpenSpec.ofChange trapBitsSpec)

/-- ITS FALSE NEIGHBOUR: 'it returns false'. Refute it at one input. -/
def trapBitsWrong : ChangeSpec := { name := "trapBits", fn := fun _ => fun
  | [d1, d2, d3, d4] => { results := [.lit (.bool false)], args := [d1, d2, d3, d4] }
  | _ => none }
def TrapBitsWrongFalsely : Prop := trapBitsRow.holds Try.pinned (OpenSpec.ofChange trapBitsWrong)

/-- 'ravelinlaw19.TrapTurns': WHATEVER THE INPUT: true; the input reads as it did. -/
def trapTurnsSpec : ChangeSpec := { name := "trapTurns", fn := fun _ => fun
  | [d1, d2, d3, d4, d5, d6] => { results := [.lit (.bool true)], args := [d1, d2, d3, d4, d5, d6] }
  | _ => none }
def trapTurnsRow : OpenClaim := { program := "ytpofnfcbgamhpaa", sum := "a7593e8d4f16a019f013b3d1c08be4852b6e1fedd05bbfe4be6ae8fc8110ec2d", func := "ravelin/ravelinlaw19.TrapTurns", spec := "trapTurns", inPlace := ["math/bits.Add64"], unfollowed := true, recurses := true, apart := false }
def TrapTurnsSaid : Prop := trapTurnsRow.holds Try.pinned (OpenSpec.ofChange trapTurnsSpec)

/-- ITS FALSE NEIGHBOUR: 'it returns false'. Refute it at one input. -/
def trapTurnsWrong : ChangeSpec := { name := "trapTurns", fn := fun _ => fun
  | [d1, d2, d3, d4, d5, d6] => { results := [.lit (.bool false)], args := [d1, d2, d3, d4, d5, d6] }
  | _ => none }
def TrapTurnsWrongFalsely : Prop := trapTurnsRow.holds Try.pinned (OpenSpec.ofChange trapTurnsWrong)

/- THE SECOND FORM. 'bulk': how many values and letters a reading holds, each counted each time it is reached (what is shared counts as often as it is met; a slice's spare places count too). A statement '..UptoSaid' is the law's where the arguments, and the package variables that the reading takes, are together of bulk at most 1048576: NARROWER than '..Said'. Prove '..Said' where nothing that the law and all that it calls make is longer than what came in: it says more and counts as full. Else prove '..UptoSaid'. A law counts once. -/
mutual
def uptoBulk {H : Type} : DataW H → Nat
  | .lit (.string bytes) => bytes.length + 1
  | .lit _ => 1
  | .nil => 1
  | .ptr d => uptoBulk d + 1
  | .slice elems spare => uptoBulkAll elems + uptoBulkAll spare + 1
  | .agg parts => uptoBulkAll parts + 1
  | .iface _ d => uptoBulk d + 1
  | .map entries => uptoBulkEntries entries + 1
  | .held _ => 1
def uptoBulkAll {H : Type} : List (DataW H) → Nat
  | [] => 0
  | d :: r => uptoBulk d + uptoBulkAll r
def uptoBulkEntries {H : Type} : List (Lit × DataW H) → Nat
  | [] => 0
  | x :: r => uptoBulkEntry x + uptoBulkEntries r
def uptoBulkEntry {H : Type} : Lit × DataW H → Nat
  | (.string bytes, d) => bytes.length + uptoBulk d + 1
  | (_, d) => uptoBulk d + 1
 end
def uptoSmall : (H : Type) → List (DataW H) → Bool := fun _ ds => decide (uptoBulkAll ds ≤ 1048576)
def OpenSpec.upto (s : _root_.Go.ChangeSpec) : _root_.Go.OpenSpec := { _root_.Go.OpenSpec.ofChange s with cond := some uptoSmall }

/-- 'ravelinlaw19.TrapDelegates', WHERE WHAT IT READS IS OF BULK AT MOST 1048576: true; the input reads as it did. -/
def trapDelegatesUptoRow : OpenClaim := { program := "ytpofnfcbgamhpaa", sum := "a7593e8d4f16a019f013b3d1c08be4852b6e1fedd05bbfe4be6ae8fc8110ec2d", func := "ravelin/ravelinlaw19.TrapDelegates", spec := "trapDelegates", inPlace := ["math/bits.Add64"], unfollowed := true, recurses := true, apart := false, narrowed := true }
def TrapDelegatesUptoSaid : Prop := trapDelegatesUptoRow.holds Try.pinned (OpenSpec.upto trapDelegatesSpec)

/-- 'ravelinlaw19.TrapKnown', WHERE WHAT IT READS IS OF BULK AT MOST 1048576: true; the input reads as it did. -/
def trapKnownUptoRow : OpenClaim := { program := "ytpofnfcbgamhpaa", sum := "a7593e8d4f16a019f013b3d1c08be4852b6e1fedd05bbfe4be6ae8fc8110ec2d", func := "ravelin/ravelinlaw19.TrapKnown", spec := "trapKnown", inPlace := ["math/bits.Add64"], unfollowed := true, recurses := true, apart := false, narrowed := true }
def TrapKnownUptoSaid : Prop := trapKnownUptoRow.holds Try.pinned (OpenSpec.upto trapKnownSpec)

/-- 'ravelinlaw19.TrapBack', WHERE WHAT IT READS IS OF BULK AT MOST 1048576: true; the input reads as it did. -/
def trapBackUptoRow : OpenClaim := { program := "ytpofnfcbgamhpaa", sum := "a7593e8d4f16a019f013b3d1c08be4852b6e1fedd05bbfe4be6ae8fc8110ec2d", func := "ravelin/ravelinlaw19.TrapBack", spec := "trapBack", inPlace := ["math/bits.Add64"], unfollowed := true, recurses := true, apart := false, narrowed := true }
def TrapBackUptoSaid : Prop := trapBackUptoRow.holds Try.pinned (OpenSpec.upto trapBackSpec)

/-- 'ravelinlaw19.TrapMoves', WHERE WHAT IT READS IS OF BULK AT MOST 1048576: true; the input reads as it did. -/
def trapMovesUptoRow : OpenClaim := { program := "ytpofnfcbgamhpaa", sum := "a7593e8d4f16a019f013b3d1c08be4852b6e1fedd05bbfe4be6ae8fc8110ec2d", func := "ravelin/ravelinlaw19.TrapMoves", spec := "trapMoves", inPlace := ["math/bits.Add64"], unfollowed := true, recurses := true, apart := false, narrowed := true }
def TrapMovesUptoSaid : Prop := trapMovesUptoRow.holds Try.pinned (OpenSpec.upto trapMovesSpec)

/-- 'ravelinlaw19.TrapBits', WHERE WHAT IT READS IS OF BULK AT MOST 1048576: true; the input reads as it did. -/
def trapBitsUptoRow : OpenClaim := { program := "ytpofnfcbgamhpaa", sum := "a7593e8d4f16a019f013b3d1c08be4852b6e1fedd05bbfe4be6ae8fc8110ec2d", func := "ravelin/ravelinlaw19.TrapBits", spec := "trapBits", inPlace := ["math/bits.Add64"], unfollowed := true, recurses := true, apart := false, narrowed := true }
def TrapBitsUptoSaid : Prop := trapBitsUptoRow.holds Try.pinned (OpenSpec.upto trapBitsSpec)

/-- 'ravelinlaw19.TrapTurns', WHERE WHAT IT READS IS OF BULK AT MOST 1048576: true; the input reads as it did. -/
def trapTurnsUptoRow : OpenClaim := { program := "ytpofnfcbgamhpaa", sum := "a7593e8d4f16a019f013b3d1c08be4852b6e1fedd05bbfe4be6ae8fc8110ec2d", func := "ravelin/ravelinlaw19.TrapTurns", spec := "trapTurns", inPlace := ["math/bits.Add64"], unfollowed := true, recurses := true, apart := false, narrowed := true }
def TrapTurnsUptoSaid : Prop := trapTurnsUptoRow.holds Try.pinned (OpenSpec.upto trapTurnsSpec)

end Rows
end Go.Proofs.Ytpofnfcbgamhpaa

/-
  No cell of these rows narrows 'for every input' (looked for: loops, veiled, ifaces, maps, wideKeys, modest, calm, conditions, laid).
  DERIVED. THE GIVEN ROWS OF THIS SEAT. 7 by the template 'for every input the law returns true; each argument reads behind the call as it read before'; 0 by the template 'total and deterministic' (their statements: YtmlhjbdhpojjkaaTotals.lean).
  GIVEN WITH THE SEED: the statements are not yours to turn. If you find one false, say at which input.
  Laid BY PROGRAM, IN A SANDBOX (cutbox-rows.mjs): the forced cells as the released guide's own fill.sh prints them over the translation 336888020588f29e… (all of the seat's roots in one cut). By AI agents, Wed Nov 11 2026. No macro, syntax, notation, axiom, sorry.
-/
import Derived.Test.YtmlhjbdhpojjkaaChecked
import GoSem.Claim
import GoSem.ClaimJoined
import GoSem.ClaimMapViews
import Derived.JoinedTies
import Derived.KernelRfl
namespace Go.Proofs.Ytmlhjbdhpojjkaa
/- THE CELL 'sum', in the pinned program and in every row, IS THE sha256 OF THE DUMP (.gsa) THAT YtmlhjbdhpojjkaaProg.lean LOADS. Nothing in Lean hashes anything: it is a label: what it is worth is what the hold of that sum in a sandbox is worth. -/
noncomputable def Try.pinned : Pinned := { name := "ytmlhjbdhpojjkaa", sum := "336888020588f29ef1223798bb94cd39dedf37ea96823edeec1578a2fe419693", checked := Try.checked }
namespace Rows
def none {H : Type} : Left H := { results := [], args := [] }

/-- 'ravelinlaw23.CheckData': WHATEVER THE INPUT: true; the input reads as it did. -/
def checkDataSpec : ChangeSpec := { name := "checkData", fn := fun _ => fun
  | [d1, d2, d3, d4, d5, d6] => { results := [.lit (.bool true)], args := [d1, d2, d3, d4, d5, d6] }
  | _ => none }
def checkDataRow : OpenClaim := { program := "ytmlhjbdhpojjkaa", sum := "336888020588f29ef1223798bb94cd39dedf37ea96823edeec1578a2fe419693", func := "ravelin/ravelinlaw23.CheckData", spec := "checkData", inPlace := ["math/bits.Add64"], unfollowed := true, recurses := true, apart := false }
def CheckDataSaid : Prop := checkDataRow.holds Try.pinned (OpenSpec.ofChange checkDataSpec)

/-- ITS FALSE NEIGHBOUR: 'it returns false'. Refute it at one input. -/
def checkDataWrong : ChangeSpec := { name := "checkData", fn := fun _ => fun
  | [d1, d2, d3, d4, d5, d6] => { results := [.lit (.bool false)], args := [d1, d2, d3, d4, d5, d6] }
  | _ => none }
def CheckDataWrongFalsely : Prop := checkDataRow.holds Try.pinned (OpenSpec.ofChange checkDataWrong)

/-- 'ravelinlaw23.CheckPermits': WHATEVER THE INPUT: true; the input reads as it did. -/
def checkPermitsSpec : ChangeSpec := { name := "checkPermits", fn := fun _ => fun
  | [d1, d2, d3, d4, d5, d6] => { results := [.lit (.bool true)], args := [d1, d2, d3, d4, d5, d6] }
  | _ => none }
def checkPermitsRow : OpenClaim := { program := "ytmlhjbdhpojjkaa", sum := "336888020588f29ef1223798bb94cd39dedf37ea96823edeec1578a2fe419693", func := "ravelin/ravelinlaw23.CheckPermits", spec := "checkPermits", inPlace := ["math/bits.Add64"], unfollowed := true, recurses := true, apart := false }
def CheckPermitsSaid : Prop := checkPermitsRow.holds Try.pinned (OpenSpec.ofChange checkPermitsSpec)

/-- ITS FALSE NEIGHBOUR: 'it returns false'. Refute it at one input. -/
def checkPermitsWrong : ChangeSpec := { name := "checkPermits", fn := fun _ => fun
  | [d1, d2, d3, d4, d5, d6] => { results := [.lit (.bool false)], args := [d1, d2, d3, d4, d5, d6] }
  | _ => none }
def CheckPermitsWrongFalsely : Prop := checkPermitsRow.holds Try.pinned (OpenSpec.ofChange checkPermitsWrong)

/-- 'ravelinlaw23.CheckParts': WHATEVER THE INPUT: true; the input reads as it did. -/
def checkPartsSpec : ChangeSpec := { name := "checkParts", fn := fun _ => fun
  | [d1, d2, d3, d4, d5, d6, d7, d8, d9] => { results := [.lit (.bool true)], args := [d1, d2, d3, d4, d5, d6, d7, d8, d9] }
  | _ => none }
def checkPartsRow : OpenClaim := { program := "ytmlhjbdhpojjkaa", sum := "336888020588f29ef1223798bb94cd39dedf37ea96823edeec1578a2fe419693", func := "ravelin/ravelinlaw23.CheckParts", spec := "checkParts", inPlace := ["math/bits.Add64"], unfollowed := true, recurses := true, apart := false }
def CheckPartsSaid : Prop := checkPartsRow.holds Try.pinned (OpenSpec.ofChange checkPartsSpec)

/-- ITS FALSE NEIGHBOUR: 'it returns false'. Refute it at one input. -/
def checkPartsWrong : ChangeSpec := { name := "checkParts", fn := fun _ => fun
  | [d1, d2, d3, d4, d5, d6, d7, d8, d9] => { results := [.lit (.bool false)], args := [d1, d2, d3, d4, d5, d6, d7, d8, d9] }
  | _ => none }
def CheckPartsWrongFalsely : Prop := checkPartsRow.holds Try.pinned (OpenSpec.ofChange checkPartsWrong)

/-- 'ravelinlaw23.CheckStores': WHATEVER THE INPUT: true; the input reads as it did. -/
def checkStoresSpec : ChangeSpec := { name := "checkStores", fn := fun _ => fun
  | [d1, d2, d3] => { results := [.lit (.bool true)], args := [d1, d2, d3] }
  | _ => none }
def checkStoresRow : OpenClaim := { program := "ytmlhjbdhpojjkaa", sum := "336888020588f29ef1223798bb94cd39dedf37ea96823edeec1578a2fe419693", func := "ravelin/ravelinlaw23.CheckStores", spec := "checkStores", inPlace := ["math/bits.Add64"], unfollowed := true, recurses := true, apart := false }
def CheckStoresSaid : Prop := checkStoresRow.holds Try.pinned (OpenSpec.ofChange checkStoresSpec)

/-- ITS FALSE NEIGHBOUR: 'it returns false'. Refute it at one input. -/
def checkStoresWrong : ChangeSpec := { name := "checkStores", fn := fun _ => fun
  | [d1, d2, d3] => { results := [.lit (.bool false)], args := [d1, d2, d3] }
  | _ => none }
def CheckStoresWrongFalsely : Prop := checkStoresRow.holds Try.pinned (OpenSpec.ofChange checkStoresWrong)

/-- 'ravelinlaw23.CheckJumps': WHATEVER THE INPUT: true; the input reads as it did. -/
def checkJumpsSpec : ChangeSpec := { name := "checkJumps", fn := fun _ => fun
  | [d1, d2] => { results := [.lit (.bool true)], args := [d1, d2] }
  | _ => none }
def checkJumpsRow : OpenClaim := { program := "ytmlhjbdhpojjkaa", sum := "336888020588f29ef1223798bb94cd39dedf37ea96823edeec1578a2fe419693", func := "ravelin/ravelinlaw23.CheckJumps", spec := "checkJumps", inPlace := ["math/bits.Add64"], unfollowed := true, recurses := true, apart := false }
def CheckJumpsSaid : Prop := checkJumpsRow.holds Try.pinned (OpenSpec.ofChange checkJumpsSpec)

/-- ITS FALSE NEIGHBOUR: 'it returns false'. Refute it at one input. -/
def checkJumpsWrong : ChangeSpec := { name := "checkJumps", fn := fun _ => fun
  | [d1, d2] => { results := [.lit (.bool false)], args := [d1, d2] }
  | _ => none }
def CheckJumpsWrongFalsely : Prop := checkJumpsRow.holds Try.pinned (OpenSpec.ofChange checkJumpsWrong)

/-- 'ravelinlaw23.CheckRuns': WHATEVER THE INPUT: true; the input reads as it did. -/
def checkRunsSpec : ChangeSpec := { name := "checkRuns", fn := fun _ => fun
  | [d1, d2, d3, d4, d5] => { results := [.lit (.bool true)], args := [d1, d2, d3, d4, d5] }
  | _ => none }
def checkRunsRow : OpenClaim := { program := "ytmlhjbdhpojjkaa", sum := "336888020588f29ef1223798bb94cd39dedf37ea96823edeec1578a2fe419693", func := "ravelin/ravelinlaw23.CheckRuns", spec := "checkRuns", inPlace := ["math/bits.Add64"], unfollowed := true, recurses := true, apart := false }
def CheckRunsSaid : Prop := checkRunsRow.holds Try.pinned (OpenSpec.ofChange checkRunsSpec)

/-- ITS FALSE NEIGHBOUR: 'it returns false'. Refute it at one input. -/
def checkRunsWrong : ChangeSpec := { name := "checkRuns", fn := fun _ => fun
  | [d1, d2, d3, d4, d5] => { results := [.lit (.bool false)], args := [d1, d2, d3, d4, d5] }
  | _ => none }
def CheckRunsWrongFalsely : Prop := checkRunsRow.holds Try.pinned (OpenSpec.ofChange checkRunsWrong)

/-- 'ravelinlaw23.CheckKnown': WHATEVER THE INPUT: true; the input reads as it did. -/
def checkKnownSpec : ChangeSpec := { name := "checkKnown", fn := fun _ => fun
  | [] => { results := [.lit (.bool true)], args := [] }
  | _ => none }
def checkKnownRow : OpenClaim := { program := "ytmlhjbdhpojjkaa", sum := "336888020588f29ef1223798bb94cd39dedf37ea96823edeec1578a2fe419693", func := "ravelin/ravelinlaw23.CheckKnown", spec := "checkKnown", inPlace := ["math/bits.Add64"], unfollowed := true, recurses := true, apart := false }
def CheckKnownSaid : Prop := checkKnownRow.holds Try.pinned (OpenSpec.ofChange checkKnownSpec)

/-- ITS FALSE NEIGHBOUR: 'it returns false'. Refute it at one input. -/
def checkKnownWrong : ChangeSpec := { name := "checkKnown", fn := fun _ => fun
  | [] => { results := [.lit (.bool false)], args := [] }
  | _ => none }
def CheckKnownWrongFalsely : Prop := checkKnownRow.holds Try.pinned (OpenSpec.ofChange checkKnownWrong)

/- THE SECOND FORM. 'bulk': how many values and letters a reading holds, each counted each time it is reached (what is shared counts as often as it is met; a slice's spare places count too). A statement '..UptoSaid' is the law's where the arguments, and the package variables that the reading takes, are together of bulk at most 1048576: NARROWER than '..Said'. Prove '..Said' where nothing that the law and all that it calls make is longer than what came in: it says more and counts as full. Else prove '..UptoSaid'. A law counts once. -/
mutual
def uptoBulk {H : Type} : DataW H → Nat
  | .lit (.string bytes) => bytes.length + 1
  | .lit _ => 1
  | .nil => 1
  | .ptr d => uptoBulk d + 1
  | .slice elems spare => uptoBulkAll elems + uptoBulkAll spare + 1
  | .agg parts => uptoBulkAll parts + 1
  | .iface _ d => uptoBulk d + 1
  | .map entries => uptoBulkEntries entries + 1
  | .held _ => 1
def uptoBulkAll {H : Type} : List (DataW H) → Nat
  | [] => 0
  | d :: r => uptoBulk d + uptoBulkAll r
def uptoBulkEntries {H : Type} : List (Lit × DataW H) → Nat
  | [] => 0
  | x :: r => uptoBulkEntry x + uptoBulkEntries r
def uptoBulkEntry {H : Type} : Lit × DataW H → Nat
  | (.string bytes, d) => bytes.length + uptoBulk d + 1
  | (_, d) => uptoBulk d + 1
 end
def uptoSmall : (H : Type) → List (DataW H) → Bool := fun _ ds => decide (uptoBulkAll ds ≤ 1048576)
def OpenSpec.upto (s : _root_.Go.ChangeSpec) : _root_.Go.OpenSpec := { _root_.Go.OpenSpec.ofChange s with cond := some uptoSmall }

/-- 'ravelinlaw23.CheckData', WHERE WHAT IT READS IS OF BULK AT MOST 1048576: true; the input reads as it did. -/
def checkDataUptoRow : OpenClaim := { program := "ytmlhjbdhpojjkaa", sum := "336888020588f29ef1223798bb94cd39dedf37ea96823edeec1578a2fe419693", func := "ravelin/ravelinlaw23.CheckData", spec := "checkData", inPlace := ["math/bits.Add64"], unfollowed := true, recurses := true, apart := false, narrowed := true }
def CheckDataUptoSaid : Prop := checkDataUptoRow.holds Try.pinned (OpenSpec.upto checkDataSpec)

/-- 'ravelinlaw23.CheckPermits', WHERE WHAT IT READS IS OF BULK AT MOST 1048576: true; the input reads as it did. -/
def checkPermitsUptoRow : OpenClaim := { program := "ytmlhjbdhpojjkaa", sum := "336888020588f29ef1223798bb94cd39dedf37ea96823edeec1578a2fe419693", func := "ravelin/ravelinlaw23.CheckPermits", spec := "checkPermits", inPlace := ["math/bits.Add64"], unfollowed := true, recurses := true, apart := false, narrowed := true }
def CheckPermitsUptoSaid : Prop := checkPermitsUptoRow.holds Try.pinned (OpenSpec.upto checkPermitsSpec)

/-- 'ravelinlaw23.CheckParts', WHERE WHAT IT READS IS OF BULK AT MOST 1048576: true; the input reads as it did. -/
def checkPartsUptoRow : OpenClaim := { program := "ytmlhjbdhpojjkaa", sum := "336888020588f29ef1223798bb94cd39dedf37ea96823edeec1578a2fe419693", func := "ravelin/ravelinlaw23.CheckParts", spec := "checkParts", inPlace := ["math/bits.Add64"], unfollowed := true, recurses := true, apart := false, narrowed := true }
def CheckPartsUptoSaid : Prop := checkPartsUptoRow.holds Try.pinned (OpenSpec.upto checkPartsSpec)

/-- 'ravelinlaw23.CheckStores', WHERE WHAT IT READS IS OF BULK AT MOST 1048576: true; the input reads as it did. -/
def checkStoresUptoRow : OpenClaim := { program := "ytmlhjbdhpojjkaa", sum := "336888020588f29ef1223798bb94cd39dedf37ea96823edeec1578a2fe419693", func := "ravelin/ravelinlaw23.CheckStores", spec := "checkStores", inPlace := ["math/bits.Add64"], unfollowed := true, recurses := true, apart := false, narrowed := true }
def CheckStoresUptoSaid : Prop := checkStoresUptoRow.holds Try.pinned (OpenSpec.upto checkStoresSpec)

/-- 'ravelinlaw23.CheckJumps', WHERE WHAT IT READS IS OF BULK AT MOST 1048576: true; the input reads as it did. -/
def checkJumpsUptoRow : OpenClaim := { program := "ytmlhjbdhpojjkaa", sum := "336888020588f29ef1223798bb94cd39dedf37ea96823edeec1578a2fe419693", func := "ravelin/ravelinlaw23.CheckJumps", spec := "checkJumps", inPlace := ["math/bits.Add64"], unfollowed := true, recurses := true, apart := false, narrowed := true }
def CheckJumpsUptoSaid : Prop := checkJumpsUptoRow.holds Try.pinned (OpenSpec.upto checkJumpsSpec)

/-- 'ravelinlaw23.CheckRuns', WHERE WHAT IT READS IS OF BULK AT MOST 1048576: true; the input reads as it did. -/
def checkRunsUptoRow : OpenClaim := { program := "ytmlhjbdhpojjkaa", sum := "336888020588f29ef1223798bb94cd39dedf37ea96823edeec1578a2fe419693", func := "ravelin/ravelinlaw23.CheckRuns", spec := "checkRuns", inPlace := ["math/bits.Add64"], unfollowed := true, recurses := true, apart := false, narrowed := true }
def CheckRunsUptoSaid : Prop := checkRunsUptoRow.holds Try.pinned (OpenSpec.upto checkRunsSpec)

/-- 'ravelinlaw23.CheckKnown', WHERE WHAT IT READS IS OF BULK AT MOST 1048576: true; the input reads as it did. -/
def checkKnownUptoRow : OpenClaim := { program := "ytmlhjbdhpojjkaa", sum := "336888020588f29ef1223798bb94cd39dedf37ea96823edeec1578a2fe419693", func := "ravelin/ravelinlaw23.CheckKnown", spec := "checkKnown", inPlace := ["math/bits.Add64"], unfollowed := true, recurses := true, apart := false, narrowed := true }
def CheckKnownUptoSaid : Prop := checkKnownUptoRow.holds Try.pinned (OpenSpec.upto checkKnownSpec)

end Rows
end Go.Proofs.Ytmlhjbdhpojjkaa

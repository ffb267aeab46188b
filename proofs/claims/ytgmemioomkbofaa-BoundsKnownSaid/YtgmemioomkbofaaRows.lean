/-
  No cell of these rows narrows 'for every input' (looked for: loops, veiled, ifaces, maps, wideKeys, modest, calm, conditions, laid).
  DERIVED. THE GIVEN ROWS OF THIS SEAT. 4 by the template 'for every input the law returns true; each argument reads behind the call as it read before'; 0 by the template 'total and deterministic' (their statements: YtgmemioomkbofaaTotals.lean).
  GIVEN WITH THE SEED: the statements are not yours to turn. If you find one false, say at which input.
  Laid BY PROGRAM, IN A SANDBOX (cutbox-rows.mjs): the forced cells as the released guide's own fill.sh prints them over the translation af6c14f25172c02b… (all of the seat's roots in one cut). By AI agents, Wed Nov 11 2026. No macro, syntax, notation, axiom, sorry.
-/
import Derived.Test.YtgmemioomkbofaaChecked
import GoSem.Claim
import GoSem.ClaimJoined
import GoSem.ClaimMapViews
import Derived.JoinedTies
import Derived.KernelRfl
namespace Go.Proofs.Ytgmemioomkbofaa
/- THE CELL 'sum', in the pinned program and in every row, IS THE sha256 OF THE DUMP (.gsa) THAT YtgmemioomkbofaaProg.lean LOADS. Nothing in Lean hashes anything: it is a label: what it is worth is what the hold of that sum in a sandbox is worth. -/
noncomputable def Try.pinned : Pinned := { name := "ytgmemioomkbofaa", sum := "af6c14f25172c02ba3fa2e661f30dec2a45f30c0693b0b0bebc4640d7fa8c291", checked := Try.checked }
namespace Rows
def none {H : Type} : Left H := { results := [], args := [] }

/-- 'ravelinlaw03.BoundsOnce': WHATEVER THE INPUT: true; the input reads as it did. -/
def boundsOnceSpec : ChangeSpec := { name := "boundsOnce", fn := fun _ => fun
  | [d1, d2] => { results := [.lit (.bool true)], args := [d1, d2] }
  | _ => none }
def boundsOnceRow : OpenClaim := { program := "ytgmemioomkbofaa", sum := "af6c14f25172c02ba3fa2e661f30dec2a45f30c0693b0b0bebc4640d7fa8c291", func := "ravelin/ravelinlaw03.BoundsOnce", spec := "boundsOnce", inPlace := ["math/bits.Add64"], unfollowed := true, recurses := true, apart := false }
def BoundsOnceSaid : Prop := boundsOnceRow.holds Try.pinned (OpenSpec.ofChange boundsOnceSpec)

/-- ITS FALSE NEIGHBOUR: 'it returns false'. Refute it at one input. -/
def boundsOnceWrong : ChangeSpec := { name := "boundsOnce", fn := fun _ => fun
  | [d1, d2] => { results := [.lit (.bool false)], args := [d1, d2] }
  | _ => none }
def BoundsOnceWrongFalsely : Prop := boundsOnceRow.holds Try.pinned (OpenSpec.ofChange boundsOnceWrong)

/-- 'ravelinlaw03.BoundsKnown': WHATEVER THE INPUT: true; the input reads as it did. -/
def boundsKnownSpec : ChangeSpec := { name := "boundsKnown", fn := fun _ => fun
  | [] => { results := [.lit (.bool true)], args := [] }
  | _ => none }
def boundsKnownRow : OpenClaim := { program := "ytgmemioomkbofaa", sum := "af6c14f25172c02ba3fa2e661f30dec2a45f30c0693b0b0bebc4640d7fa8c291", func := "ravelin/ravelinlaw03.BoundsKnown", spec := "boundsKnown", inPlace := ["math/bits.Add64"], unfollowed := true, recurses := true, apart := false }
def BoundsKnownSaid : Prop := boundsKnownRow.holds Try.pinned (OpenSpec.ofChange boundsKnownSpec)

/-- ITS FALSE NEIGHBOUR: 'it returns false'. Refute it at one input. -/
def boundsKnownWrong : ChangeSpec := { name := "boundsKnown", fn := fun _ => fun
  | [] => { results := [.lit (.bool false)], args := [] }
  | _ => none }
def BoundsKnownWrongFalsely : Prop := boundsKnownRow.holds Try.pinned (OpenSpec.ofChange boundsKnownWrong)

/-- 'ravelinlaw14.SerialPower': WHATEVER THE INPUT: true; the input reads as it did. -/
def serialPowerSpec : ChangeSpec := { name := "serialPower", fn := fun _ => fun
  | [d1, d2, d3, d4] => { results := [.lit (.bool true)], args := [d1, d2, d3, d4] }
  | _ => none }
def serialPowerRow : OpenClaim := { program := "ytgmemioomkbofaa", sum := "af6c14f25172c02ba3fa2e661f30dec2a45f30c0693b0b0bebc4640d7fa8c291", func := "ravelin/ravelinlaw14.SerialPower", spec := "serialPower", apart := false }
def SerialPowerSaid : Prop := serialPowerRow.holds Try.pinned (OpenSpec.ofChange serialPowerSpec)

/-- ITS FALSE NEIGHBOUR: 'it returns false'. Refute it at one input. -/
def serialPowerWrong : ChangeSpec := { name := "serialPower", fn := fun _ => fun
  | [d1, d2, d3, d4] => { results := [.lit (.bool false)], args := [d1, d2, d3, d4] }
  | _ => none }
def SerialPowerWrongFalsely : Prop := serialPowerRow.holds Try.pinned (OpenSpec.ofChange serialPowerWrong)

/-- 'ravelinlaw14.SerialKnown': WHATEVER THE INPUT: true; the input reads as it did. -/
def serialKnownSpec : ChangeSpec := { name := "serialKnown", fn := fun _ => fun
  | [] => { results := [.lit (.bool true)], args := [] }
  | _ => none }
def serialKnownRow : OpenClaim := { program := "ytgmemioomkbofaa", sum := "af6c14f25172c02ba3fa2e661f30dec2a45f30c0693b0b0bebc4640d7fa8c291", func := "ravelin/ravelinlaw14.SerialKnown", spec := "serialKnown", apart := false }
def SerialKnownSaid : Prop := serialKnownRow.holds Try.pinned (OpenSpec.ofChange serialKnownSpec)

/-- ITS FALSE NEIGHBOUR: 'it returns false'. Refute it at one input. -/
def serialKnownWrong : ChangeSpec := { name := "serialKnown", fn := fun _ => fun
  | [] => { results := [.lit (.bool false)], args := [] }
  | _ => none }
def SerialKnownWrongFalsely : Prop := serialKnownRow.holds Try.pinned (OpenSpec.ofChange serialKnownWrong)

/- THE SECOND FORM. 'bulk': how many values and letters a reading holds, each counted each time it is reached (what is shared counts as often as it is met; a slice's spare places count too). A statement '..UptoSaid' is the law's where the arguments, and the package variables that the reading takes, are together of bulk at most 1048576: NARROWER than '..Said'. Prove '..Said' where nothing that the law and all that it calls make is longer than what came in: it says more and counts as full. Else prove '..UptoSaid'. A law counts once. -/
mutual
def uptoBulk {H : Type} : DataW H → Nat
  | .lit (.string bytes) => bytes.length + 1
  | .lit _ => 1
  | .nil => 1
  | .ptr d => uptoBulk d + 1
  | .slice elems spare => uptoBulkAll elems + uptoBulkAll spare + 1
  | .agg parts => uptoBulkAll parts + 1
  | .iface _ d => uptoBulk d + 1
  | .map entries => uptoBulkEntries entries + 1
  | .held _ => 1
def uptoBulkAll {H : Type} : List (DataW H) → Nat
  | [] => 0
  | d :: r => uptoBulk d + uptoBulkAll r
def uptoBulkEntries {H : Type} : List (Lit × DataW H) → Nat
  | [] => 0
  | x :: r => uptoBulkEntry x + uptoBulkEntries r
def uptoBulkEntry {H : Type} : Lit × DataW H → Nat
  | (.string bytes, d) => bytes.length + uptoBulk d + 1
  | (_, d) => uptoBulk d + 1
 end
def uptoSmall : (H : Type) → List (DataW H) → Bool := fun _ ds => decide (uptoBulkAll ds ≤ 1048576)
def OpenSpec.upto (s : _root_.Go.ChangeSpec) : _root_.Go.OpenSpec := { _root_.Go.OpenSpec.ofChange s with cond := some uptoSmall }

/-- 'ravelinlaw03.BoundsOnce', WHERE WHAT IT READS IS OF BULK AT MOST 1048576: true; the input reads as it did. -/
def boundsOnceUptoRow : OpenClaim := { program := "ytgmemioomkbofaa", sum := "af6c14f25172c02ba3fa2e661f30dec2a45f30c0693b0b0bebc4640d7fa8c291", func := "ravelin/ravelinlaw03.BoundsOnce", spec := "boundsOnce", inPlace := ["math/bits.Add64"], unfollowed := true, recurses := true, apart := false, narrowed := true }
def BoundsOnceUptoSaid : Prop := boundsOnceUptoRow.holds Try.pinned (OpenSpec.upto boundsOnceSpec)

/-- 'ravelinlaw03.BoundsKnown', WHERE WHAT IT READS IS OF BULK AT MOST 1048576: true; the input reads as it did. -/
def boundsKnownUptoRow : OpenClaim := { program := "ytgmemioomkbofaa", sum := "af6c14f25172c02ba3fa2e661f30dec2a45f30c0693b0b0bebc4640d7fa8c291", func := "ravelin/ravelinlaw03.BoundsKnown", spec := "boundsKnown", inPlace := ["math/bits.Add64"], unfollowed := true, recurses := true, apart := false, narrowed := true }
def BoundsKnownUptoSaid : Prop := boundsKnownUptoRow.holds Try.pinned (OpenSpec.upto boundsKnownSpec)

/-- 'ravelinlaw14.SerialPower', WHERE WHAT IT READS IS OF BULK AT MOST 1048576: true; the input reads as it did. -/
def serialPowerUptoRow : OpenClaim := { program := "ytgmemioomkbofaa", sum := "af6c14f25172c02ba3fa2e661f30dec2a45f30c0693b0b0bebc4640d7fa8c291", func := "ravelin/ravelinlaw14.SerialPower", spec := "serialPower", apart := false, narrowed := true }
def SerialPowerUptoSaid : Prop := serialPowerUptoRow.holds Try.pinned (OpenSpec.upto serialPowerSpec)

/-- 'ravelinlaw14.SerialKnown', WHERE WHAT IT READS IS OF BULK AT MOST 1048576: true; the input reads as it did. -/
def serialKnownUptoRow : OpenClaim := { program := "ytgmemioomkbofaa", sum := "af6c14f25172c02ba3fa2e661f30dec2a45f30c0693b0b0bebc4640d7fa8c291", func := "ravelin/ravelinlaw14.SerialKnown", spec := "serialKnown", apart := false, narrowed := true }
def SerialKnownUptoSaid : Prop := serialKnownUptoRow.holds Try.pinned (OpenSpec.upto serialKnownSpec)

end Rows
end Go.Proofs.Ytgmemioomkbofaa

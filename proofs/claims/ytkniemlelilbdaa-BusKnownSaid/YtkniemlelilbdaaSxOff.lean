/- Functions that are left unanswered; answers under a condition. -/
import Derived.Test.YtkniemlelilbdaaSxEC
set_option linter.unusedSimpArgs false
set_option linter.unusedVariables false
set_option linter.unnecessarySimpa false
namespace Go.Sx
open Go
def offE (l : List Nat) (C : Oracle) : Oracle := fun R g args H N K => bif memB g l then none else C R g args H N K
theorem offE_snd {P : Program} {l : List Nat} {C : Oracle} (hC : Snd P C) : Snd P (offE l C) := by
  intro R g args H N K r h
  unfold offE at h
  cases hm : memB g l with
  | true => rw [hm] at h; cases h
  | false => rw [hm] at h; exact hC R g args H N K r h
theorem whenO {α : Type} {c : Bool} {x : Option α} {y : α} (h : (bif c then x else none) = some y) : x = some y := by
  cases c with
  | true => exact h
  | false => cases h
end Go.Sx

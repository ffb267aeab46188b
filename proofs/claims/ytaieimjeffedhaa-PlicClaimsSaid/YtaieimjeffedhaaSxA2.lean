/- What is brought to constructors is what it was. -/
import Derived.Test.YtaieimjeffedhaaSxA
set_option linter.unusedSimpArgs false
set_option linter.unusedVariables false
set_option linter.unnecessarySimpa false
namespace Go.Sx
open Go
section
variable {R : Type}
@[simp] theorem fN_eq (n : Nat) (K : Nat → Option R) : fN n K = K n := by cases n <;> rfl
@[simp] theorem fB_eq {w : Nat} (fl : Bool) (b : BitVec w) (K : BitVec w → Option R) : fB fl b K = K b := by
  unfold fB; cases fl <;> simp
@[simp] theorem fP_eq (fl : Bool) (p : AP) (K : AP → Option R) : fP fl p K = K p := by
  cases p; unfold fP; cases fl <;> simp
mutual
theorem fV_eq (fl : Fl) : ∀ (v : AV) (K : AV → Option R), fV fl v K = K v
  | .any, K => rfl
  | .bool b, K => by unfold fV; cases fl.n <;> cases b <;> rfl
  | .int k b, K => by unfold fV; cases k <;> exact fB_eq _ _ _
  | .ptr p, K => by unfold fV; simp
  | .nilptr, K => rfl
  | .slice p es n, K => by unfold fV; cases fl.n <;> simp
  | .nilslice, K => rfl
  | .func f a c, K => by unfold fV; rw [fL_eq fl a]; exact fL_eq fl c _
  | .nilfunc, K => rfl
  | .iface t v, K => by unfold fV; exact fV_eq fl v _
  | .nilface, K => rfl
  | .agg l, K => by unfold fV; exact fL_eq fl l _
  | .tup l, K => by unfold fV; exact fL_eq fl l _
  | .lit v, K => rfl
theorem fL_eq (fl : Fl) : ∀ (l : List AV) (K : List AV → Option R), fL fl l K = K l
  | [], K => rfl
  | v :: l, K => by unfold fL; rw [fV_eq fl v]; exact fL_eq fl l _
end
theorem fR_eq (fl : Fl) : ∀ (l : List (List AV)) (K : List (List AV) → Option R), fR fl l K = K l
  | [], K => rfl
  | r :: l, K => by unfold fR; rw [fL_eq fl r]; exact fR_eq fl l _
theorem fS_eq (fl : Fl) : ∀ (l : List Seg) (K : List Seg → Option R), fS fl l K = K l
  | [], K => rfl
  | .cell v :: l, K => by unfold fS; rw [fV_eq fl v]; exact fS_eq fl l _
  | .arr sh n d :: l, K => by
    unfold fS
    cases fl.d
    · exact fS_eq fl l _
    · simp only [cond_true]; rw [fR_eq fl d]; exact fS_eq fl l _
theorem fE_eq (fl : Fl) : ∀ (l : Eff) (K : Eff → Option R), fE fl l K = K l
  | [], K => rfl
  | (x, none) :: l, K => by unfold fE; rw [fN_eq]; exact fE_eq fl l _
  | (x, some ⟨rw, s⟩) :: l, K => by unfold fE; rw [fN_eq, fS_eq fl s]; exact fE_eq fl l _
theorem fT_eq : ∀ (t : TM) (K : TM → Option R), fT t K = K t
  | .nil, K => rfl
  | .node v l r, K => by unfold fT; rw [fT_eq l]; exact fT_eq r _
theorem fH_eq : ∀ (t : Heap) (K : Heap → Option R), fH t K = K t
  | [], K => rfl
  | (x, b) :: l, K => by unfold fH; exact fH_eq l _
theorem fTd_eq (fl : Fl) : ∀ (t : TM) (K : TM → Option R), fTd fl t K = K t
  | .nil, K => rfl
  | .node v l r, K => by unfold fTd; rw [fV_eq fl v, fTd_eq fl l]; exact fTd_eq fl r _
theorem fHd_eq (fl : Fl) : ∀ (t : Heap) (K : Heap → Option R), fHd fl t K = K t
  | [], K => rfl
  | (x, ⟨rw, s⟩) :: l, K => by unfold fHd; rw [fN_eq, fS_eq _ s]; exact fHd_eq fl l _
theorem opF_eq (P : Program) (C : Oracle) (fl : Fl) (op : Op) (tm : TM) (H : Heap) (N : Nat) (K : AV → Eff → Nat → Option R) : opF P C fl op tm H N K = opA P C op tm H N K := by
  unfold opF; simp only [fV_eq, fE_eq, fN_eq]
theorem normF_eq (fl : Fl) (N : Nat) (roots : List Nat) (tm : TM) (H : Heap) (K : TM → Heap → Nat → Option R) : normF fl N roots tm H K = normA N roots tm H K := by
  unfold normF; simp only [fTd_eq, fHd_eq, fN_eq]
end
end Go.Sx

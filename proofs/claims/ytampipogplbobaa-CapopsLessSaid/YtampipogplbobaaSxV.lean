/- An oracle of many functions, each called by its body, to a depth. -/
import Derived.Test.YtampipogplbobaaSxU
set_option linter.unusedSimpArgs false
set_option linter.unusedVariables false
set_option linter.unnecessarySimpa false
namespace Go.Sx
open Go

structure Ent where
  g : Nat
  q : Bool
  F : Cfg
  fn : Func
def findEnt (g : Nat) : List Ent → Option Ent
  | [] => none
  | t :: l => bif Nat.beq g t.g then some t else findEnt g l
def tabE (P : Program) (tab : List Ent) (D C : Oracle) : Oracle := fun R g args H N K => match findEnt g tab with
  | some t => bif t.q then quietA P D (drawA P) t.F t.fn args H N K else inlineA P D (drawA P) t.F t.fn args H N K
  | none => C R g args H N K
def TabOK (P : Program) : List Ent → Prop
  | [] => True
  | t :: l => (P.funcs[t.g]? = some t.fn ∧ (t.fn.name == "runtime.NumGoroutine") = false) ∧ t.F.laws = [] ∧ TabOK P l
theorem findEnt_ok {P : Program} : ∀ {tab : List Ent} {g : Nat} {t : Ent}, TabOK P tab → findEnt g tab = some t → P.funcs[g]? = some t.fn ∧ (t.fn.name == "runtime.NumGoroutine") = false
  | [], _, _, _, h => by simp [findEnt] at h
  | u :: l, g, t, hok, h => by
    unfold findEnt at h
    cases hb : Nat.beq g u.g with
    | true =>
      rw [hb] at h
      obtain rfl : u = t := Option.some.inj h
      rw [Nat.eq_of_beq_eq_true hb]
      exact hok.1
    | false =>
      rw [hb] at h
      exact findEnt_ok hok.2 h
theorem tabE_snd {P : Program} {tab : List Ent} {D C : Oracle} (hok : TabOK P tab) (hD : Snd P D) (hC : Snd P C) : Snd P (tabE P tab D C) := by
  intro R g args H N K r h
  unfold tabE at h
  cases hf : findEnt g tab with
  | none => rw [hf] at h; exact hC R g args H N K r h
  | some t =>
    rw [hf] at h
    obtain ⟨h1, h2⟩ := findEnt_ok hok hf
    cases hq : t.q with
    | true => simp only [hq, cond_true] at h; exact quietA_sound hD h1 h2 h
    | false => simp only [hq, cond_false] at h; exact inlineA_sound hD h1 h2 h
/-- To a depth, with some entries ahead. -/
def orc (P : Program) (tab : List Ent) (W : Oracle → Oracle) : Nat → Oracle
  | 0 => nothing
  | n + 1 => W (tabE P tab (orc P tab W n) nothing)
theorem orc_snd {P : Program} {tab : List Ent} {W : Oracle → Oracle} (hok : TabOK P tab) (hW : ∀ C, Snd P C → Snd P (W C)) : ∀ n, Snd P (orc P tab W n)
  | 0 => nothing_snd
  | n + 1 => hW _ (tabE_snd hok (orc_snd hok hW n) nothing_snd)
end Go.Sx

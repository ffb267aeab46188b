/- Entries for functions of the library that have no Go body. -/
import Derived.Test.YtonehcpccklkoaaSxU
import Derived.Laws.Externs
set_option linter.unusedSimpArgs false
set_option linter.unusedVariables false
set_option linter.unnecessarySimpa false
namespace Go.Sx
open Go

def add64S : List AV → Option AV
  | [.int .u64 x, .int .u64 y, .int .u64 c] => bif Nat.beq c.toNat 0 then some (.tup [.int .u64 (x + y), .int .u64 (bif BitVec.ult (x + y) x then 1#64 else 0#64)]) else none
  | _ => none

theorem add64_ok {P : Program} {g : FuncId} {fn : Func} (hfn : P.funcs[g]? = some fn) (hname : (fn.name == "runtime.NumGoroutine") = false) (hb : fn.body.isNone = true) (hn : Extern.findNext fn = none) (he : Extern.find fn = some add64Entry) : PureOK P g add64S := by
  intro args v hv H N ρ w vs hvs hi hf
  unfold add64S at hv
  split at hv
  · rename_i x y c
    cases hc : Nat.beq c.toNat 0 with
    | false => rw [hc] at hv; simp at hv
    | true =>
      rw [hc] at hv
      simp only [cond_true, Option.some.injEq] at hv
      subst hv
      have hc0 : (BitVec.toNat c) = 0 := Nat.eq_of_beq_eq_true hc
      obtain ⟨a, r1, rfl, ha, h1⟩ := VRs_cons.1 hvs
      obtain ⟨b, r2, rfl, hb2, h2⟩ := VRs_cons.1 h1
      obtain ⟨d, r3, rfl, hd, h3⟩ := VRs_cons.1 h2
      simp only [VRs_nil] at h3
      subst h3
      simp only [VR] at ha hb2 hd
      subst ha; subst hb2; subst hd
      have hx : den .u64 x = (x.toNat : Int) := rfl
      have hy : den .u64 y = (y.toNat : Int) := rfl
      have hz : den .u64 c = 0 := by show ((c.toNat : Nat) : Int) = 0; omega
      unfold Does
      rw [run_callFunc_extern hfn hname hb hn he, hx, hy, hz, run_add64 _ _ _ (by omega) (by omega) (by omega) (by omega)]
      refine Post.same hi ?_
      have hxl : x.toNat < 18446744073709551616 := x.isLt
      have hyl : y.toNat < 18446744073709551616 := y.isLt
      refine ⟨_, rfl, VRs_cons' ?_ (VRs_cons' ?_ (by simp))⟩
      · show _ = Value.int .u64 (((x + y).toNat : Nat) : Int)
        rw [show (x + y).toNat = (x.toNat + y.toNat) % 18446744073709551616 from BitVec.toNat_add x y]
        congr 1
      · show _ = Value.int .u64 ((((bif BitVec.ult (x + y) x then 1#64 else 0#64) : BitVec 64).toNat : Nat) : Int)
        rw [show BitVec.ult (x + y) x = decide ((x.toNat + y.toNat) % 18446744073709551616 < x.toNat) by rw [← show (x + y).toNat = (x.toNat + y.toNat) % 18446744073709551616 from BitVec.toNat_add x y]; rfl]
        by_cases h : (x.toNat + y.toNat) % 18446744073709551616 < x.toNat
        · rw [decide_eq_true h]
          show _ = Value.int .u64 1
          congr 1
          omega
        · rw [decide_eq_false h]
          show _ = Value.int .u64 0
          congr 1
          omega
  · simp at hv
end Go.Sx

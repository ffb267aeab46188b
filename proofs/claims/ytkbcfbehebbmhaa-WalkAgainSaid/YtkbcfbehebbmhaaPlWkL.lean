/- Lay: words laid one by one. -/
import Derived.Test.YtkbcfbehebbmhaaVl21b
import Derived.Test.YtkbcfbehebbmhaaPlB
import Derived.Test.YtkbcfbehebbmhaaPlRamBA0
set_option linter.unusedSimpArgs false
set_option linter.unusedVariables false
set_option linter.unnecessarySimpa false
namespace Go.Sx
open Go
theorem reg_in {n o s : Nat} {P : BitVec 64} (hn : n ≤ 65536) (hP : P.toNat = 2147483648 + o) (ho : o + s ≤ n) : v_reg 2147483648#64 (BitVec.signExtend 64 (BitVec.ofNat 64 n)) P (BitVec.ofNat 64 s) = true ∧ (P - 2147483648#64).toNat = o := by
  have hb : (2147483648#64).toNat = 2147483648 := rfl
  have hs : (BitVec.ofNat 64 s).toNat = s := ofNat_toNat (by omega)
  have hN : (BitVec.ofNat 64 n).toNat = n := ofNat_toNat (by omega)
  have h2 : (P - 2147483648#64).toNat = o := by rw [BitVec.toNat_sub, hP, hb]; omega
  refine ⟨?_, h2⟩
  rw [BitVec.signExtend_eq]
  have h3 : (BitVec.ofNat 64 n - (P - 2147483648#64)).toNat = n - o := by rw [BitVec.toNat_sub, h2, hN]; omega
  unfold v_reg
  rw [BitVec.ule, BitVec.ule, BitVec.ule, sle_nat (by decide) (by omega), hP, h2, h3, hs, hb, hN]
  rw [decide_eq_true (by omega), decide_eq_true (by show (0#64).toNat ≤ _; simp), decide_eq_true (by omega), decide_eq_true (by omega)]; rfl
def lyA (r : List AV) : BitVec 64 := 2147483648#64 + BitVec.signExtend 64 (8#64 * v_kit_Pick (asI64 (r.headD AV.any)) 1536#64)
def lyV (r : List AV) : BitVec 64 := asU64 (r.tail.headD AV.any)
def v_lyD (n : Nat) (d l : List (List AV)) : List (List AV) := l.foldl (fun d r => v_sD n d (lyA r - 2147483648#64) 8#64 (lyV r)) d
def v_lyT (n : Nat) (tg l : List (List AV)) : List (List AV) := l.foldl (fun tg r => v_sT n tg (lyA r - 2147483648#64) 8#64) tg
def v_lyR (na : Nat) (da : List (List AV)) (i : Nat) : List (List AV) := (List.range' i (min na 200 - i)).map fun j => da.getD j []
theorem ly_at (r : List AV) : ∃ o, (lyA r).toNat = 2147483648 + 8 * o ∧ o < 1536 := by
  have h := pickLt (asI64 (r.headD AV.any)) 1536#64 (by decide) (by decide)
  rw [show (1536#64).toNat = 1536 from rfl] at h
  refine ⟨(v_kit_Pick (asI64 (r.headD AV.any)) 1536#64).toNat, ?_, h⟩
  unfold lyA
  rw [BitVec.signExtend_eq, BitVec.toNat_add, BitVec.toNat_mul, show (2147483648#64).toNat = 2147483648 from rfl, show (8#64).toNat = 8 from rfl]
  omega
theorem ly_in (r : List AV) : v_reg 2147483648#64 (BitVec.signExtend 64 (BitVec.ofNat 64 12288)) (lyA r) 8#64 = true := by
  obtain ⟨o, h1, h2⟩ := ly_at r
  exact (reg_in (n := 12288) (s := 8) (by decide) h1 (by omega)).1
theorem rok_ly {n : Nat} : ∀ (l tg d : List (List AV)), Rok n tg d → Rok n (v_lyT n tg l) (v_lyD n d l)
  | [], _, _, h => h
  | r :: l, tg, d, h => rok_ly l _ _ (h.store (lyA r - 2147483648#64) 8#64 (lyV r))
def g_ly (n : Nat) (tg : List (List AV)) (m : Nat) (d : List (List AV)) (na ma : Nat) (i : BitVec 64) : Bool := g_ram n tg m d && (Nat.beq n 12288 && (Nat.ble na ma && (Nat.blt na 9223372036854775808 && i == 0#64)))
theorem mly_rn (rw : Bool) (na ma : Nat) (da : List (List AV)) (c0 c1 c2 : BitVec 64) (pr : List (List AV)) (p1 p2 : BitVec 32) (en th q : List (List AV)) (u1 u2 : BitVec 64) (u3 w : Bool) (hm : na ≤ ma) (hn : na < 2 ^ 63) :
    ∀ (k : Nat) (tg d : List (List AV)) (i : BitVec 64), Rok 12288 tg d → min na 200 - i.toNat = k → i.toNat ≤ min na 200 →
      Rn mlyStep (.a rw na ma da 12288 tg 12288 d c0 c1 c2 pr p1 p2 en th q u1 u2 u3 w i)
        (.fine rw ma da 12288 (v_lyT 12288 tg (v_lyR na da i.toNat)) 12288 (v_lyD 12288 d (v_lyR na da i.toNat)) bus1 (bClint c0 c1 c2) (bPlic pr p1 p2 en th) (bUart q u1 u2 u3) (bPow w)) := by
  intro k
  induction k with
  | zero =>
    intro tg d i h hk hi
    have e : v_lyR na da i.toNat = [] := by unfold v_lyR; rw [hk]; rfl
    rw [e]
    refine .last ?_
    simp only [mlyStep]
    rw [slt_len (show i.toNat < 2 ^ 63 by omega) hn, slt_nat (show i.toNat < 2 ^ 63 by omega) (show (200#64).toNat < 2 ^ 63 by decide), show (200#64).toNat = 200 from rfl]
    by_cases h1 : i.toNat < na
    · rw [decide_eq_true h1, decide_eq_false (by omega)]; rfl
    · rw [decide_eq_false h1]; rfl
  | succ k ih =>
    intro tg d i h hk hi
    have hinc := inc_nat (show i.toNat < 2 ^ 63 by omega)
    have e : v_lyR na da i.toNat = da.getD i.toNat [] :: v_lyR na da (i + 1#64).toNat := by
      unfold v_lyR
      rw [hinc, show min na 200 - i.toNat = (min na 200 - (i.toNat + 1)) + 1 by omega, List.range'_succ, List.map_cons]
    have ih' := ih _ _ (i + 1#64) (h.store (lyA (da.getD i.toNat []) - 2147483648#64) 8#64 (lyV (da.getD i.toNat []))) (by omega) (by omega)
    rw [e]
    refine .next ?_ ih'
    simp only [mlyStep]
    rw [slt_len (show i.toNat < 2 ^ 63 by omega) hn, slt_nat (show i.toNat < 2 ^ 63 by omega) (show (200#64).toNat < 2 ^ 63 by decide), show (200#64).toNat = 200 from rfl, Nat.zero_add]
    rw [decide_eq_true (by omega), decide_eq_true (by omega), nonneg_lt (by omega), decide_eq_true (show i.toNat < ma by omega), h.ram]
    have hr := ly_in (da.getD i.toNat [])
    unfold lyA at hr
    rw [hr]; rfl
noncomputable def mlyCps : Cps MlyS := fun R x K => match x with
  | .a rw na ma da n tg m d c0 c1 c2 pr p1 p2 en th q u1 u2 u3 w i => cond (g_ly n tg m d na ma i) (K (.exit 0) (tmOf [4] [.ptr ⟨1, 0, 0, 0, 0⟩])
      [(0, ⟨rw, [.arr [.int .i64, .int .u64] ma da]⟩), (1, bus1), (2, ⟨true, [.cell (.slice ⟨3, 0, 0, 1, 0⟩ 1 12288), .arr [.int .u64] 64 (v_lyT 12288 tg (v_lyR na da 0))]⟩), (3, ⟨true, [.arr [.int .u8] 12288 (v_lyD 12288 d (v_lyR na da 0))]⟩),
       (4, bClint c0 c1 c2), (5, bPlic pr p1 p2 en th), (6, bUart q u1 u2 u3), (7, bPow w)] 8) none
theorem mlyCps_ok (R : Type) (x : MlyS) (K : Out → TM → Heap → Nat → Option R) (r : R) (h : mlyCps R x K = some r) : ∃ z, Rn mlyStep x z ∧ K (mlyO z) (tmOf [4] (mlyV z)) (mlyG z) (mlyM z) = some r := by
  cases x with
  | a rw na ma da n tg m d c0 c1 c2 pr p1 p2 en th q u1 u2 u3 w i =>
    obtain ⟨hg, hk⟩ := condK h
    unfold g_ly at hg
    simp only [Bool.and_eq_true, beq_iff_eq] at hg
    obtain ⟨h1, h2, h3, h4, rfl⟩ := hg
    have h2 := Nat.eq_of_beq_eq_true h2
    subst h2
    obtain ⟨rfl, g2, g3, g4, g5⟩ := g_ram_iff.1 h1
    have h3 : na ≤ ma := Nat.le_of_ble_eq_true h3
    have h4 : na < 2 ^ 63 := Nat.le_of_ble_eq_true h4
    refine ⟨_, mly_rn rw na ma da c0 c1 c2 pr p1 p2 en th q u1 u2 u3 w h3 h4 _ tg d 0#64 { ld := g2, lg := g3, lo := g4, hi := g5 } rfl (by simp), ?_⟩
    exact hk
end Go.Sx

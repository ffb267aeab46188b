/- Several texts in one. -/
import Derived.Test.YtkbcfbehebbmhaaGreatSxX
import Derived.Test.YtkbcfbehebbmhaaGreatSxLen2
import Derived.Test.YtkbcfbehebbmhaaGreatSxEC
import Derived.Test.YtkbcfbehebbmhaaGreatVa03
import Derived.Test.YtkbcfbehebbmhaaGreatPlBusO
import Derived.Test.YtkbcfbehebbmhaaGreatPlBusB3
import Derived.Test.YtkbcfbehebbmhaaGreatPlB
import Derived.Test.YtkbcfbehebbmhaaGreatPlRamBA0
set_option linter.unusedSimpArgs false
set_option linter.unusedVariables false
set_option linter.unnecessarySimpa false
/- What loops do, round by round. -/
namespace Go.Sx
open Go

/-! ### Lay: word by word -/
inductive MlyS where
  | a (rw : Bool) (na : Nat) (ma : Nat) (da : List (List AV)) (n : Nat) (tg : List (List AV)) (m : Nat) (d : List (List AV)) (c0 : BitVec 64) (c1 : BitVec 64) (c2 : BitVec 64) (pr : List (List AV)) (p1 : BitVec 32) (p2 : BitVec 32) (en : List (List AV)) (th : List (List AV)) (q : List (List AV)) (u1 : BitVec 64) (u2 : BitVec 64) (u3 : Bool) (w : Bool) (i : BitVec 64)
inductive MlyE where
  | fine (rw : Bool) (ma : Nat) (da : List (List AV)) (n : Nat) (tg : List (List AV)) (m : Nat) (d : List (List AV)) (b1 : Blk) (b4 : Blk) (b5 : Blk) (b6 : Blk) (b7 : Blk)
def mlyT : MlyS → List AV
  | .a _ na _ _ _ _ _ _ _ _ _ _ _ _ _ _ _ _ _ _ _ i => [.slice ⟨0, 0, 0, 2, 0⟩ 2 na, .ptr ⟨1, 0, 0, 0, 0⟩, .int .i64 i]
def mlyH : MlyS → Heap
  | .a rw _ ma da n tg m d c0 c1 c2 pr p1 p2 en th q u1 u2 u3 w _ => [(0, ⟨rw, [.arr [.int .i64, .int .u64] ma da]⟩), (1, bus1), (2, ⟨true, [.cell (.slice ⟨3, 0, 0, 1, 0⟩ 1 n), .arr [.int .u64] 64 tg]⟩), (3, ⟨true, [.arr [.int .u8] m d]⟩), (4, (bClint c0 c1 c2)), (5, (bPlic pr p1 p2 en th)), (6, (bUart q u1 u2 u3)), (7, (bPow w))]
def mlyN : MlyS → Nat
  | .a _ _ _ _ _ _ _ _ _ _ _ _ _ _ _ _ _ _ _ _ _ _ => 8
def mlyDec_a (vs : List AV) (H : Heap) (N : Nat) : Option MlyS := match vs, H.find 0, H.find 1, H.find 2, H.find 3, H.find 4, H.find 5, H.find 6, H.find 7, N with
  | [.slice ⟨0, 0, 0, 2, 0⟩ 2 na, .ptr ⟨1, 0, 0, 0, 0⟩, .int .i64 i], some ⟨rw, [.arr [.int .i64, .int .u64] ma da]⟩, some b1, some ⟨true, [.cell (.slice ⟨3, 0, 0, 1, 0⟩ 1 n), .arr [.int .u64] 64 tg]⟩, some ⟨true, [.arr [.int .u8] m d]⟩, some b4, some b5, some b6, some b7, 8 => (dBus1 b1).bind fun _ => (dClint b4).bind fun (c0, c1, c2) => (dPlic b5).bind fun (pr, p1, p2, en, th) => (dUart b6).bind fun (q, u1, u2, u3) => (dPow b7).bind fun w => some (.a rw na ma da n tg m d c0 c1 c2 pr p1 p2 en th q u1 u2 u3 w i)
  | _, _, _, _, _, _, _, _, _, _ => none
theorem mlyDec_a_ok (vs : List AV) (H : Heap) (N : Nat) (y : MlyS) (h : mlyDec_a vs H N = some y) : vs = mlyT y ∧ (mlyH y).sub H ∧ N = mlyN y := by
  unfold mlyDec_a at h
  split at h
  · obtain ⟨u_, e1, h⟩ := Option.bind_eq_some_iff.1 h
    obtain ⟨⟨c0, c1, c2⟩, e4, h⟩ := Option.bind_eq_some_iff.1 h
    obtain ⟨⟨pr, p1, p2, en, th⟩, e5, h⟩ := Option.bind_eq_some_iff.1 h
    obtain ⟨⟨q, u1, u2, u3⟩, e6, h⟩ := Option.bind_eq_some_iff.1 h
    obtain ⟨w, e7, h⟩ := Option.bind_eq_some_iff.1 h
    obtain rfl := dBus1_ok e1
    obtain rfl := dClint_ok e4
    obtain rfl := dPlic_ok e5
    obtain rfl := dUart_ok e6
    obtain rfl := dPow_ok e7
    cases h; refine ⟨rfl, ?_, rfl⟩; repeat (first | exact sub_nil | refine sub_cons (by assumption) ?_)
  · cases h
def mlyDec (vs : List AV) (H : Heap) (N : Nat) : Option MlyS := mlyDec_a vs H N
theorem mlyDec_ok (vs : List AV) (H : Heap) (N : Nat) (y : MlyS) (h : mlyDec vs H N = some y) : vs = mlyT y ∧ (mlyH y).sub H ∧ N = mlyN y := mlyDec_a_ok _ _ _ _ h
def mlyO : MlyE → Out
  | .fine _ _ _ _ _ _ _ _ _ _ _ _ => .exit 0
def mlyV : MlyE → List AV
  | .fine _ _ _ _ _ _ _ _ _ _ _ _ => [.ptr ⟨1, 0, 0, 0, 0⟩]
def mlyG : MlyE → Heap
  | .fine rw ma da n tg m d b1 b4 b5 b6 b7 => [(0, ⟨rw, [.arr [.int .i64, .int .u64] ma da]⟩), (1, b1), (2, ⟨true, [.cell (.slice ⟨3, 0, 0, 1, 0⟩ 1 n), .arr [.int .u64] 64 tg]⟩), (3, ⟨true, [.arr [.int .u8] m d]⟩), (4, b4), (5, b5), (6, b6), (7, b7)]
def mlyM : MlyE → Nat
  | .fine _ _ _ _ _ _ _ _ _ _ _ _ => 8
def mlyDecE (o : Out) (vs : List AV) (H : Heap) (N : Nat) : Option MlyE := match o, vs, H.find 0, H.find 1, H.find 2, H.find 3, H.find 4, H.find 5, H.find 6, H.find 7, N with
  | .exit 0, [.ptr ⟨1, 0, 0, 0, 0⟩], some ⟨rw, [.arr [.int .i64, .int .u64] ma da]⟩, some b1, some ⟨true, [.cell (.slice ⟨3, 0, 0, 1, 0⟩ 1 n), .arr [.int .u64] 64 tg]⟩, some ⟨true, [.arr [.int .u8] m d]⟩, some b4, some b5, some b6, some b7, 8 => some (.fine rw ma da n tg m d b1 b4 b5 b6 b7)
  | _, _, _, _, _, _, _, _, _, _, _ => none
theorem mlyDecE_ok (o : Out) (vs : List AV) (H : Heap) (N : Nat) (z : MlyE) (h : mlyDecE o vs H N = some z) : o = mlyO z ∧ o ≠ .normal ∧ vs = mlyV z ∧ (mlyG z).sub H ∧ N = mlyM z := by
  unfold mlyDecE at h
  split at h
  all_goals first
    | (cases h; done)
    | (cases h; refine ⟨rfl, nofun, rfl, ?_, rfl⟩; repeat (first | exact sub_nil | refine sub_cons (by assumption) ?_))
noncomputable def mlyStep : MlyS → Option (MlyS ⊕ MlyE)
 | .a rw na ma da n tg m d c0 c1 c2 pr p1 p2 en th q u1 u2 u3 w i =>
 (cond (i.slt (BitVec.ofNat 64 na))
 (cond (i.slt 200#64)
 (cond (nonneg IntKind.i64 i && decide (i.toNat < na))
 (cond (decide (0 + i.toNat < ma))
 (cond (nonneg IntKind.i64 i && decide (i.toNat < na))
 (cond (decide (0 + i.toNat < ma))
 (cond (v_reg (2147483648#64) (BitVec.signExtend 64 (BitVec.ofNat 64 n)) (2147483648#64 + BitVec.signExtend 64 (8#64 * v_kit_Pick (asI64 ((da.getD (0 + i.toNat) []).headD AV.any)) 1536#64)) 8#64)
 (cond (g_ram n tg m d)
 (some (Sum.inl (MlyS.a rw na ma da n (v_sT n tg (2147483648#64 + BitVec.signExtend 64 (8#64 * v_kit_Pick (asI64 ((da.getD (0 + i.toNat) []).headD AV.any)) 1536#64) - 2147483648#64) 8#64) m (v_sD n d (2147483648#64 + BitVec.signExtend 64 (8#64 * v_kit_Pick (asI64 ((da.getD (0 + i.toNat) []).headD AV.any)) 1536#64) - 2147483648#64) (8#64) (asU64 ((da.getD (0 + i.toNat) []).tail.headD AV.any))) c0 c1 c2 pr p1 p2 en th q u1 u2 u3 w (i + 1#64))))
        none)
 (cond (v_reg (33554432#64) (65536#64) (2147483648#64 + BitVec.signExtend 64 (8#64 * v_kit_Pick (asI64 ((da.getD (0 + i.toNat) []).headD AV.any)) 1536#64)) 8#64)
        none
 (cond (v_reg (201326592#64) (4194304#64) (2147483648#64 + BitVec.signExtend 64 (8#64 * v_kit_Pick (asI64 ((da.getD (0 + i.toNat) []).headD AV.any)) 1536#64)) 8#64)
         none
 (cond (v_reg (268435456#64) (256#64) (2147483648#64 + BitVec.signExtend 64 (8#64 * v_kit_Pick (asI64 ((da.getD (0 + i.toNat) []).headD AV.any)) 1536#64)) 8#64)
          none
 (cond (v_reg (1048576#64) (4096#64) (2147483648#64 + BitVec.signExtend 64 (8#64 * v_kit_Pick (asI64 ((da.getD (0 + i.toNat) []).headD AV.any)) 1536#64)) 8#64)
           none
 (some (Sum.inl (MlyS.a rw na ma da n tg m d c0 c1 c2 pr p1 p2 en th q u1 u2 u3 w (i + 1#64)))))))))
      none)
     none)
    none)
   none)
 (some (Sum.inr (MlyE.fine rw ma da n tg m d bus1 { rw := true, segs := [Seg.cell (AV.int IntKind.u64 c0), Seg.cell (AV.int IntKind.u64 c1), Seg.cell (AV.int IntKind.u64 c2)] } { rw := true, segs := [Seg.arr [CK.int IntKind.u32] 32 pr, Seg.cell (AV.int IntKind.u32 p1), Seg.cell (AV.int IntKind.u32 p2), Seg.arr [CK.int IntKind.u32] 2 en, Seg.arr [CK.int IntKind.u32] 2 th] } { rw := true, segs := [Seg.arr [CK.int IntKind.u8] 16 q, Seg.cell (AV.int IntKind.i64 u1), Seg.cell (AV.int IntKind.i64 u2), Seg.cell (AV.bool u3), Seg.cell AV.nilslice] } { rw := true, segs := [Seg.cell (AV.bool w)] }))))
 (some (Sum.inr (MlyE.fine rw ma da n tg m d bus1 { rw := true, segs := [Seg.cell (AV.int IntKind.u64 c0), Seg.cell (AV.int IntKind.u64 c1), Seg.cell (AV.int IntKind.u64 c2)] } { rw := true, segs := [Seg.arr [CK.int IntKind.u32] 32 pr, Seg.cell (AV.int IntKind.u32 p1), Seg.cell (AV.int IntKind.u32 p2), Seg.arr [CK.int IntKind.u32] 2 en, Seg.arr [CK.int IntKind.u32] 2 th] } { rw := true, segs := [Seg.arr [CK.int IntKind.u8] 16 q, Seg.cell (AV.int IntKind.i64 u1), Seg.cell (AV.int IntKind.i64 u2), Seg.cell (AV.bool u3), Seg.cell AV.nilslice] } { rw := true, segs := [Seg.cell (AV.bool w)] }))))
end Go.Sx

/- Lay: words laid one by one. -/
namespace Go.Sx
open Go
theorem reg_in {n o s : Nat} {P : BitVec 64} (hn : n ≤ 65536) (hP : P.toNat = 2147483648 + o) (ho : o + s ≤ n) : v_reg 2147483648#64 (BitVec.signExtend 64 (BitVec.ofNat 64 n)) P (BitVec.ofNat 64 s) = true ∧ (P - 2147483648#64).toNat = o := by
  have hb : (2147483648#64).toNat = 2147483648 := rfl
  have hs : (BitVec.ofNat 64 s).toNat = s := ofNat_toNat (by omega)
  have hN : (BitVec.ofNat 64 n).toNat = n := ofNat_toNat (by omega)
  have h2 : (P - 2147483648#64).toNat = o := by rw [BitVec.toNat_sub, hP, hb]; omega
  refine ⟨?_, h2⟩
  rw [BitVec.signExtend_eq]
  have h3 : (BitVec.ofNat 64 n - (P - 2147483648#64)).toNat = n - o := by rw [BitVec.toNat_sub, h2, hN]; omega
  unfold v_reg
  rw [BitVec.ule, BitVec.ule, BitVec.ule, sle_nat (by decide) (by omega), hP, h2, h3, hs, hb, hN]
  rw [decide_eq_true (by omega), decide_eq_true (by show (0#64).toNat ≤ _; simp), decide_eq_true (by omega), decide_eq_true (by omega)]; rfl
def lyA (r : List AV) : BitVec 64 := 2147483648#64 + BitVec.signExtend 64 (8#64 * v_kit_Pick (asI64 (r.headD AV.any)) 1536#64)
def lyV (r : List AV) : BitVec 64 := asU64 (r.tail.headD AV.any)
def v_lyD (n : Nat) (d l : List (List AV)) : List (List AV) := l.foldl (fun d r => v_sD n d (lyA r - 2147483648#64) 8#64 (lyV r)) d
def v_lyT (n : Nat) (tg l : List (List AV)) : List (List AV) := l.foldl (fun tg r => v_sT n tg (lyA r - 2147483648#64) 8#64) tg
def v_lyR (na : Nat) (da : List (List AV)) (i : Nat) : List (List AV) := (List.range' i (min na 200 - i)).map fun j => da.getD j []
theorem ly_at (r : List AV) : ∃ o, (lyA r).toNat = 2147483648 + 8 * o ∧ o < 1536 := by
  have h := pickLt (asI64 (r.headD AV.any)) 1536#64 (by decide) (by decide)
  rw [show (1536#64).toNat = 1536 from rfl] at h
  refine ⟨(v_kit_Pick (asI64 (r.headD AV.any)) 1536#64).toNat, ?_, h⟩
  unfold lyA
  rw [BitVec.signExtend_eq, BitVec.toNat_add, BitVec.toNat_mul, show (2147483648#64).toNat = 2147483648 from rfl, show (8#64).toNat = 8 from rfl]
  omega
theorem ly_in (r : List AV) : v_reg 2147483648#64 (BitVec.signExtend 64 (BitVec.ofNat 64 12288)) (lyA r) 8#64 = true := by
  obtain ⟨o, h1, h2⟩ := ly_at r
  exact (reg_in (n := 12288) (s := 8) (by decide) h1 (by omega)).1
theorem rok_ly {n : Nat} : ∀ (l tg d : List (List AV)), Rok n tg d → Rok n (v_lyT n tg l) (v_lyD n d l)
  | [], _, _, h => h
  | r :: l, tg, d, h => rok_ly l _ _ (h.store (lyA r - 2147483648#64) 8#64 (lyV r))
def g_ly (n : Nat) (tg : List (List AV)) (m : Nat) (d : List (List AV)) (na ma : Nat) (i : BitVec 64) : Bool := g_ram n tg m d && (Nat.beq n 12288 && (Nat.ble na ma && (Nat.blt na 9223372036854775808 && i == 0#64)))
theorem mly_rn (rw : Bool) (na ma : Nat) (da : List (List AV)) (c0 c1 c2 : BitVec 64) (pr : List (List AV)) (p1 p2 : BitVec 32) (en th q : List (List AV)) (u1 u2 : BitVec 64) (u3 w : Bool) (hm : na ≤ ma) (hn : na < 2 ^ 63) :
    ∀ (k : Nat) (tg d : List (List AV)) (i : BitVec 64), Rok 12288 tg d → min na 200 - i.toNat = k → i.toNat ≤ min na 200 →
      Rn mlyStep (.a rw na ma da 12288 tg 12288 d c0 c1 c2 pr p1 p2 en th q u1 u2 u3 w i)
        (.fine rw ma da 12288 (v_lyT 12288 tg (v_lyR na da i.toNat)) 12288 (v_lyD 12288 d (v_lyR na da i.toNat)) bus1 (bClint c0 c1 c2) (bPlic pr p1 p2 en th) (bUart q u1 u2 u3) (bPow w)) := by
  intro k
  induction k with
  | zero =>
    intro tg d i h hk hi
    have e : v_lyR na da i.toNat = [] := by unfold v_lyR; rw [hk]; rfl
    rw [e]
    refine .last ?_
    simp only [mlyStep]
    rw [slt_len (show i.toNat < 2 ^ 63 by omega) hn, slt_nat (show i.toNat < 2 ^ 63 by omega) (show (200#64).toNat < 2 ^ 63 by decide), show (200#64).toNat = 200 from rfl]
    by_cases h1 : i.toNat < na
    · rw [decide_eq_true h1, decide_eq_false (by omega)]; rfl
    · rw [decide_eq_false h1]; rfl
  | succ k ih =>
    intro tg d i h hk hi
    have hinc := inc_nat (show i.toNat < 2 ^ 63 by omega)
    have e : v_lyR na da i.toNat = da.getD i.toNat [] :: v_lyR na da (i + 1#64).toNat := by
      unfold v_lyR
      rw [hinc, show min na 200 - i.toNat = (min na 200 - (i.toNat + 1)) + 1 by omega, List.range'_succ, List.map_cons]
    have ih' := ih _ _ (i + 1#64) (h.store (lyA (da.getD i.toNat []) - 2147483648#64) 8#64 (lyV (da.getD i.toNat []))) (by omega) (by omega)
    rw [e]
    refine .next ?_ ih'
    simp only [mlyStep]
    rw [slt_len (show i.toNat < 2 ^ 63 by omega) hn, slt_nat (show i.toNat < 2 ^ 63 by omega) (show (200#64).toNat < 2 ^ 63 by decide), show (200#64).toNat = 200 from rfl, Nat.zero_add]
    rw [decide_eq_true (by omega), decide_eq_true (by omega), nonneg_lt (by omega), decide_eq_true (show i.toNat < ma by omega), h.ram]
    have hr := ly_in (da.getD i.toNat [])
    unfold lyA at hr
    rw [hr]; rfl
noncomputable def mlyCps : Cps MlyS := fun R x K => match x with
  | .a rw na ma da n tg m d c0 c1 c2 pr p1 p2 en th q u1 u2 u3 w i => cond (g_ly n tg m d na ma i) (K (.exit 0) (tmOf [4] [.ptr ⟨1, 0, 0, 0, 0⟩])
      [(0, ⟨rw, [.arr [.int .i64, .int .u64] ma da]⟩), (1, bus1), (2, ⟨true, [.cell (.slice ⟨3, 0, 0, 1, 0⟩ 1 12288), .arr [.int .u64] 64 (v_lyT 12288 tg (v_lyR na da 0))]⟩), (3, ⟨true, [.arr [.int .u8] 12288 (v_lyD 12288 d (v_lyR na da 0))]⟩),
       (4, bClint c0 c1 c2), (5, bPlic pr p1 p2 en th), (6, bUart q u1 u2 u3), (7, bPow w)] 8) none
theorem mlyCps_ok (R : Type) (x : MlyS) (K : Out → TM → Heap → Nat → Option R) (r : R) (h : mlyCps R x K = some r) : ∃ z, Rn mlyStep x z ∧ K (mlyO z) (tmOf [4] (mlyV z)) (mlyG z) (mlyM z) = some r := by
  cases x with
  | a rw na ma da n tg m d c0 c1 c2 pr p1 p2 en th q u1 u2 u3 w i =>
    obtain ⟨hg, hk⟩ := condK h
    unfold g_ly at hg
    simp only [Bool.and_eq_true, beq_iff_eq] at hg
    obtain ⟨h1, h2, h3, h4, rfl⟩ := hg
    have h2 := Nat.eq_of_beq_eq_true h2
    subst h2
    obtain ⟨rfl, g2, g3, g4, g5⟩ := g_ram_iff.1 h1
    have h3 : na ≤ ma := Nat.le_of_ble_eq_true h3
    have h4 : na < 2 ^ 63 := Nat.le_of_ble_eq_true h4
    refine ⟨_, mly_rn rw na ma da c0 c1 c2 pr p1 p2 en th q u1 u2 u3 w h3 h4 _ tg d 0#64 { ld := g2, lg := g3, lo := g4, hi := g5 } rfl (by simp), ?_⟩
    exact hk
end Go.Sx


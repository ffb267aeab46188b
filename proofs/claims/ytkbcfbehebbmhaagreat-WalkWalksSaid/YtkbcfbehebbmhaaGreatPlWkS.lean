/- Several texts in one. -/
import Derived.Test.YtkbcfbehebbmhaaGreatSxX
import Derived.Test.YtkbcfbehebbmhaaGreatSxLen2
import Derived.Test.YtkbcfbehebbmhaaGreatSxEC
import Derived.Test.YtkbcfbehebbmhaaGreatVa03
import Derived.Test.YtkbcfbehebbmhaaGreatVa21z
import Derived.Test.YtkbcfbehebbmhaaGreatPlBusX2
import Derived.Test.YtkbcfbehebbmhaaGreatPlRamZ
import Derived.Test.YtkbcfbehebbmhaaGreatPlWkL
set_option linter.unusedSimpArgs false
set_option linter.unusedVariables false
set_option linter.unnecessarySimpa false
/- What loops do, round by round. -/
namespace Go.Sx
open Go

/-! ### Said: word by word -/
inductive MsyS where
  | a (rw : Bool) (na : Nat) (ma : Nat) (da : List (List AV)) (nx : Nat) (t : Nat) (mx : Nat) (dx : List (List AV)) (mt : Nat) (T : List (List AV)) (a0 : BitVec 64) (a1 : BitVec 64) (a2 : Bool) (xl : List (List AV)) (xt : List (List AV)) (xe : Bool) (xo : BitVec 64) (xw : Bool) (i : BitVec 64)
inductive MsyE where
  | fine (rw : Bool) (ma : Nat) (da : List (List AV)) (nx : Nat) (t : Nat) (mx : Nat) (dx : List (List AV)) (mt : Nat) (T : List (List AV)) (b1 : Blk) (b5 : Blk) (b6 : Blk) (b7 : Blk) (b8 : Blk)
def msyT : MsyS → List AV
  | .a _ na _ _ _ _ _ _ _ _ _ _ _ _ _ _ _ _ i => [.slice ⟨0, 0, 0, 2, 0⟩ 2 na, .ptr ⟨1, 0, 0, 0, 0⟩, .int .i64 i]
def msyH : MsyS → Heap
  | .a rw _ ma da nx t mx dx mt T a0 a1 a2 xl xt xe xo xw _ => [(0, ⟨rw, [.arr [.int .i64, .int .u64] ma da]⟩), (1, xbus1), (2, ⟨true, [.cell (.slice ⟨3, 0, 0, 1, 0⟩ 1 nx), .cell (.slice ⟨4, 0, 0, 1, 0⟩ 1 t)]⟩), (3, ⟨true, [.arr [.int .u8] mx dx]⟩), (4, ⟨true, [.arr [.bool] mt T]⟩), (5, (xClint a0 a1 a2)), (6, (xPlic xl xt)), (7, (xUart xe xo)), (8, (xPow xw))]
def msyN : MsyS → Nat
  | .a _ _ _ _ _ _ _ _ _ _ _ _ _ _ _ _ _ _ _ => 9
def msyDec_a (vs : List AV) (H : Heap) (N : Nat) : Option MsyS := match vs, H.find 0, H.find 1, H.find 2, H.find 3, H.find 4, H.find 5, H.find 6, H.find 7, H.find 8, N with
  | [.slice ⟨0, 0, 0, 2, 0⟩ 2 na, .ptr ⟨1, 0, 0, 0, 0⟩, .int .i64 i], some ⟨rw, [.arr [.int .i64, .int .u64] ma da]⟩, some b1, some ⟨true, [.cell (.slice ⟨3, 0, 0, 1, 0⟩ 1 nx), .cell (.slice ⟨4, 0, 0, 1, 0⟩ 1 t)]⟩, some ⟨true, [.arr [.int .u8] mx dx]⟩, some ⟨true, [.arr [.bool] mt T]⟩, some b5, some b6, some b7, some b8, 9 => (dXbus1 b1).bind fun _ => (dXClint b5).bind fun (a0, a1, a2) => (dXPlic b6).bind fun (xl, xt) => (dXUart b7).bind fun (xe, xo) => (dXPow b8).bind fun xw => some (.a rw na ma da nx t mx dx mt T a0 a1 a2 xl xt xe xo xw i)
  | _, _, _, _, _, _, _, _, _, _, _ => none
theorem msyDec_a_ok (vs : List AV) (H : Heap) (N : Nat) (y : MsyS) (h : msyDec_a vs H N = some y) : vs = msyT y ∧ (msyH y).sub H ∧ N = msyN y := by
  unfold msyDec_a at h
  split at h
  · obtain ⟨u_, e1, h⟩ := Option.bind_eq_some_iff.1 h
    obtain ⟨⟨a0, a1, a2⟩, e5, h⟩ := Option.bind_eq_some_iff.1 h
    obtain ⟨⟨xl, xt⟩, e6, h⟩ := Option.bind_eq_some_iff.1 h
    obtain ⟨⟨xe, xo⟩, e7, h⟩ := Option.bind_eq_some_iff.1 h
    obtain ⟨xw, e8, h⟩ := Option.bind_eq_some_iff.1 h
    obtain rfl := dXbus1_ok e1
    obtain rfl := dXClint_ok e5
    obtain rfl := dXPlic_ok e6
    obtain rfl := dXUart_ok e7
    obtain rfl := dXPow_ok e8
    cases h; refine ⟨rfl, ?_, rfl⟩; repeat (first | exact sub_nil | refine sub_cons (by assumption) ?_)
  · cases h
def msyDec (vs : List AV) (H : Heap) (N : Nat) : Option MsyS := msyDec_a vs H N
theorem msyDec_ok (vs : List AV) (H : Heap) (N : Nat) (y : MsyS) (h : msyDec vs H N = some y) : vs = msyT y ∧ (msyH y).sub H ∧ N = msyN y := msyDec_a_ok _ _ _ _ h
def msyO : MsyE → Out
  | .fine _ _ _ _ _ _ _ _ _ _ _ _ _ _ => .exit 0
def msyV : MsyE → List AV
  | .fine _ _ _ _ _ _ _ _ _ _ _ _ _ _ => [.ptr ⟨1, 0, 0, 0, 0⟩]
def msyG : MsyE → Heap
  | .fine rw ma da nx t mx dx mt T b1 b5 b6 b7 b8 => [(0, ⟨rw, [.arr [.int .i64, .int .u64] ma da]⟩), (1, b1), (2, ⟨true, [.cell (.slice ⟨3, 0, 0, 1, 0⟩ 1 nx), .cell (.slice ⟨4, 0, 0, 1, 0⟩ 1 t)]⟩), (3, ⟨true, [.arr [.int .u8] mx dx]⟩), (4, ⟨true, [.arr [.bool] mt T]⟩), (5, b5), (6, b6), (7, b7), (8, b8)]
def msyM : MsyE → Nat
  | .fine _ _ _ _ _ _ _ _ _ _ _ _ _ _ => 9
def msyDecE (o : Out) (vs : List AV) (H : Heap) (N : Nat) : Option MsyE := match o, vs, H.find 0, H.find 1, H.find 2, H.find 3, H.find 4, H.find 5, H.find 6, H.find 7, H.find 8, N with
  | .exit 0, [.ptr ⟨1, 0, 0, 0, 0⟩], some ⟨rw, [.arr [.int .i64, .int .u64] ma da]⟩, some b1, some ⟨true, [.cell (.slice ⟨3, 0, 0, 1, 0⟩ 1 nx), .cell (.slice ⟨4, 0, 0, 1, 0⟩ 1 t)]⟩, some ⟨true, [.arr [.int .u8] mx dx]⟩, some ⟨true, [.arr [.bool] mt T]⟩, some b5, some b6, some b7, some b8, 9 => some (.fine rw ma da nx t mx dx mt T b1 b5 b6 b7 b8)
  | _, _, _, _, _, _, _, _, _, _, _, _ => none
theorem msyDecE_ok (o : Out) (vs : List AV) (H : Heap) (N : Nat) (z : MsyE) (h : msyDecE o vs H N = some z) : o = msyO z ∧ o ≠ .normal ∧ vs = msyV z ∧ (msyG z).sub H ∧ N = msyM z := by
  unfold msyDecE at h
  split at h
  all_goals first
    | (cases h; done)
    | (cases h; refine ⟨rfl, nofun, rfl, ?_, rfl⟩; repeat (first | exact sub_nil | refine sub_cons (by assumption) ?_))
noncomputable def msyStep : MsyS → Option (MsyS ⊕ MsyE)
 | .a rw na ma da nx t mx dx mt T a0 a1 a2 xl xt xe xo xw i =>
 (cond (i.slt (BitVec.ofNat 64 na))
 (cond (i.slt 200#64)
 (cond (nonneg IntKind.i64 i && decide (i.toNat < na))
 (cond (decide (0 + i.toNat < ma))
 (cond (nonneg IntKind.i64 i && decide (i.toNat < na))
 (cond (decide (0 + i.toNat < ma))
 (cond ((v_r15_behind (2147483648#64 + BitVec.signExtend 64 (8#64 * v_kit_Pick (asI64 ((da.getD (0 + i.toNat) []).headD AV.any)) 1536#64)) (8#64) (2147483648#64) (BitVec.signExtend 64 (BitVec.ofNat 64 nx))).snd)
 (cond (g_xram nx t mx dx mt T)
 (some (Sum.inl (MsyS.a rw na ma da nx t mx (v_sD nx dx (v_r15_behind (2147483648#64 + BitVec.signExtend 64 (8#64 * v_kit_Pick (asI64 ((da.getD (0 + i.toNat) []).headD AV.any)) 1536#64)) (8#64) (2147483648#64) (BitVec.signExtend 64 (BitVec.ofNat 64 nx))).fst (8#64) (asU64 ((da.getD (0 + i.toNat) []).tail.headD AV.any))) mt (v_xsT nx T (v_r15_behind (2147483648#64 + BitVec.signExtend 64 (8#64 * v_kit_Pick (asI64 ((da.getD (0 + i.toNat) []).headD AV.any)) 1536#64)) (8#64) (2147483648#64) (BitVec.signExtend 64 (BitVec.ofNat 64 nx))).fst 8#64) a0 a1 a2 xl xt xe xo xw (i + 1#64))))
        none)
 (cond ((v_r15_behind (2147483648#64 + BitVec.signExtend 64 (8#64 * v_kit_Pick (asI64 ((da.getD (0 + i.toNat) []).headD AV.any)) 1536#64)) 8#64 33554432#64 65536#64).snd)
        none
 (cond ((v_r15_behind (2147483648#64 + BitVec.signExtend 64 (8#64 * v_kit_Pick (asI64 ((da.getD (0 + i.toNat) []).headD AV.any)) 1536#64)) 8#64 201326592#64 4194304#64).snd)
         none
 (cond ((v_r15_behind (2147483648#64 + BitVec.signExtend 64 (8#64 * v_kit_Pick (asI64 ((da.getD (0 + i.toNat) []).headD AV.any)) 1536#64)) 8#64 268435456#64 256#64).snd)
          none
 (cond ((v_r15_behind (2147483648#64 + BitVec.signExtend 64 (8#64 * v_kit_Pick (asI64 ((da.getD (0 + i.toNat) []).headD AV.any)) 1536#64)) 8#64 1048576#64 4096#64).snd)
           none
 (some (Sum.inl (MsyS.a rw na ma da nx t mx dx mt T a0 a1 a2 xl xt xe xo xw (i + 1#64)))))))))
      none)
     none)
    none)
   none)
 (some (Sum.inr (MsyE.fine rw ma da nx t mx dx mt T xbus1 { rw := true, segs := [Seg.cell (AV.int IntKind.u64 a0), Seg.cell (AV.int IntKind.u64 a1), Seg.cell (AV.bool a2)] } { rw := true, segs := [Seg.arr [CK.int IntKind.i64, CK.bool, CK.bool, CK.bool, CK.bool] 32 xl, Seg.arr [CK.int IntKind.i64] 2 xt] } { rw := true, segs := [Seg.cell AV.nilslice, Seg.cell (AV.bool xe), Seg.cell (AV.int IntKind.i64 xo)] } { rw := true, segs := [Seg.cell (AV.bool xw)] }))))
 (some (Sum.inr (MsyE.fine rw ma da nx t mx dx mt T xbus1 { rw := true, segs := [Seg.cell (AV.int IntKind.u64 a0), Seg.cell (AV.int IntKind.u64 a1), Seg.cell (AV.bool a2)] } { rw := true, segs := [Seg.arr [CK.int IntKind.i64, CK.bool, CK.bool, CK.bool, CK.bool] 32 xl, Seg.arr [CK.int IntKind.i64] 2 xt] } { rw := true, segs := [Seg.cell AV.nilslice, Seg.cell (AV.bool xe), Seg.cell (AV.int IntKind.i64 xo)] } { rw := true, segs := [Seg.cell (AV.bool xw)] }))))
end Go.Sx

/- Said: words laid one by one, by the document. -/
namespace Go.Sx
open Go
theorem behind_eq (pa n begin size : BitVec 64) : v_r15_behind pa n begin size = cond (v_reg begin size pa n) (pa - begin, true) (0#64, false) := by
  unfold v_r15_behind v_reg
  rw [BitVec.ule_eq_not_ult (x := begin), BitVec.sle_eq_not_slt, BitVec.ule_eq_not_ult (x := pa - begin), BitVec.ule_eq_not_ult (x := n), BitVec.signExtend_eq, BitVec.setWidth_eq]
  cases n.slt 0#64 <;> cases pa.ult begin <;> cases size.ult (pa - begin) <;> cases (size - (pa - begin)).ult n <;> rfl
theorem behind_ly (r : List AV) : v_r15_behind (lyA r) 8#64 2147483648#64 (BitVec.signExtend 64 (BitVec.ofNat 64 12288)) = (lyA r - 2147483648#64, true) := by
  rw [behind_eq, ly_in r]; rfl
def v_lyX (n : Nat) (T l : List (List AV)) : List (List AV) := l.foldl (fun T r => v_xsT n T (lyA r - 2147483648#64) 8#64) T
theorem mem_ly {n t : Nat} : ∀ (l tg d T : List (List AV)), Mem n tg d t T → Mem n (v_lyT n tg l) (v_lyD n d l) t (v_lyX n T l)
  | [], _, _, _, h => h
  | r :: l, tg, d, T, h => mem_ly l _ _ _ (h.store (lyA r - 2147483648#64) 8#64 (lyV r))
def g_sy (n t m : Nat) (d : List (List AV)) (mt : Nat) (T : List (List AV)) (na ma : Nat) (i : BitVec 64) : Bool := g_xram n t m d mt T && (Nat.beq n 12288 && (Nat.ble na ma && (Nat.blt na 9223372036854775808 && i == 0#64)))
theorem xram_st {n t : Nat} {d : List (List AV)} {mt : Nat} {T : List (List AV)} (h : g_xram n t n d mt T = true) (o v : BitVec 64) : g_xram n t n (v_sD n d o 8#64 v) mt (v_xsT n T o 8#64) = true := by
  rw [g_xram_iff] at h ⊢
  refine ⟨h.1, ?_, h.2.2.1, h.2.2.2.1, ?_, h.2.2.2.2.2⟩
  · rw [sD_len]; exact h.2.1
  · unfold v_xsT
    cases v_ok n o 8#64 with
    | true => rw [cond_true, v_xclr_len]; exact h.2.2.2.2.1
    | false => exact h.2.2.2.2.1
theorem msy_rn (rw : Bool) (na ma : Nat) (da : List (List AV)) (t mt : Nat) (a0 a1 : BitVec 64) (a2 : Bool) (xl xt : List (List AV)) (xe : Bool) (xo : BitVec 64) (xw : Bool) (hm : na ≤ ma) (hn : na < 2 ^ 63) :
    ∀ (k : Nat) (d T : List (List AV)) (i : BitVec 64), g_xram 12288 t 12288 d mt T = true → min na 200 - i.toNat = k → i.toNat ≤ min na 200 →
      Rn msyStep (.a rw na ma da 12288 t 12288 d mt T a0 a1 a2 xl xt xe xo xw i)
        (.fine rw ma da 12288 t 12288 (v_lyD 12288 d (v_lyR na da i.toNat)) mt (v_lyX 12288 T (v_lyR na da i.toNat)) xbus1 (xClint a0 a1 a2) (xPlic xl xt) (xUart xe xo) (xPow xw)) := by
  intro k
  induction k with
  | zero =>
    intro d T i h hk hi
    have e : v_lyR na da i.toNat = [] := by unfold v_lyR; rw [hk]; rfl
    rw [e]
    refine .last ?_
    simp only [msyStep]
    rw [slt_len (show i.toNat < 2 ^ 63 by omega) hn, slt_nat (show i.toNat < 2 ^ 63 by omega) (show (200#64).toNat < 2 ^ 63 by decide), show (200#64).toNat = 200 from rfl]
    by_cases h1 : i.toNat < na
    · rw [decide_eq_true h1, decide_eq_false (by omega)]; rfl
    · rw [decide_eq_false h1]; rfl
  | succ k ih =>
    intro d T i h hk hi
    have hinc := inc_nat (show i.toNat < 2 ^ 63 by omega)
    have e : v_lyR na da i.toNat = da.getD i.toNat [] :: v_lyR na da (i + 1#64).toNat := by
      unfold v_lyR
      rw [hinc, show min na 200 - i.toNat = (min na 200 - (i.toNat + 1)) + 1 by omega, List.range'_succ, List.map_cons]
    have ih' := ih _ _ (i + 1#64) (xram_st h (lyA (da.getD i.toNat []) - 2147483648#64) (lyV (da.getD i.toNat []))) (by omega) (by omega)
    rw [e]
    refine .next ?_ ih'
    simp only [msyStep]
    rw [slt_len (show i.toNat < 2 ^ 63 by omega) hn, slt_nat (show i.toNat < 2 ^ 63 by omega) (show (200#64).toNat < 2 ^ 63 by decide), show (200#64).toNat = 200 from rfl, Nat.zero_add]
    rw [decide_eq_true (by omega), decide_eq_true (by omega), nonneg_lt (by omega), decide_eq_true (show i.toNat < ma by omega), h]
    have hr := behind_ly (da.getD i.toNat [])
    unfold lyA at hr
    rw [hr]; rfl
noncomputable def msyCps : Cps MsyS := fun R x K => match x with
  | .a rw na ma da n t m d mt T a0 a1 a2 xl xt xe xo xw i => cond (g_sy n t m d mt T na ma i) (K (.exit 0) (tmOf [3] (msyV (.fine rw ma da 12288 t 12288 (v_lyD 12288 d (v_lyR na da 0)) mt (v_lyX 12288 T (v_lyR na da 0)) xbus1 (xClint a0 a1 a2) (xPlic xl xt) (xUart xe xo) (xPow xw))))
      (msyG (.fine rw ma da 12288 t 12288 (v_lyD 12288 d (v_lyR na da 0)) mt (v_lyX 12288 T (v_lyR na da 0)) xbus1 (xClint a0 a1 a2) (xPlic xl xt) (xUart xe xo) (xPow xw))) 9) none
theorem msyCps_ok (R : Type) (x : MsyS) (K : Out → TM → Heap → Nat → Option R) (r : R) (h : msyCps R x K = some r) : ∃ z, Rn msyStep x z ∧ K (msyO z) (tmOf [3] (msyV z)) (msyG z) (msyM z) = some r := by
  cases x with
  | a rw na ma da n t m d mt T a0 a1 a2 xl xt xe xo xw i =>
    obtain ⟨hg, hk⟩ := condK h
    unfold g_sy at hg
    simp only [Bool.and_eq_true, beq_iff_eq] at hg
    obtain ⟨h1, h2, h3, h4, rfl⟩ := hg
    have h2 := Nat.eq_of_beq_eq_true h2
    subst h2
    have hm := (g_xram_iff.1 h1).1
    subst hm
    exact ⟨_, msy_rn rw na ma da t mt a0 a1 a2 xl xt xe xo xw (Nat.le_of_ble_eq_true h3) (Nat.le_of_ble_eq_true h4) _ d T 0#64 h1 rfl (by simp), hk⟩
end Go.Sx


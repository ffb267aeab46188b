/- Plain laws of bounds that are laid: the program's are the document's (the whole). -/
import Derived.Test.YtgmemioomkbofaaPlLay3
set_option linter.unusedSimpArgs false
set_option linter.unusedVariables false
set_option linter.unnecessarySimpa false
namespace Go.Sx
open Go
set_option maxHeartbeats 4000000
def layS0 (c : Cp) (n : BitVec 64) : LayS := { n := n, a5 := false, en := c.ad + n, e := 0#64, i := 13#64, c := c, d := { tag := false, per := BitVec.ofInt IntKind.i64.bits 0, ty := BitVec.ofInt IntKind.i64.bits 0, mo := BitVec.ofInt IntKind.i64.bits 0, e := BitVec.ofInt IntKind.i64.bits 0, b := BitVec.ofInt IntKind.i64.bits 0, t := BitVec.ofInt IntKind.i64.bits 0, big := false, ad := BitVec.ofInt IntKind.u64.bits 0 }, w := { hi := BitVec.signExtend 64 (v_r03_one ((c.ad + n).ult n)), lo := c.ad + n } }
theorem layS0_is (c : Cp) (n : BitVec 64) : v_r03_Lay c n = v_r03_Lay c n := rfl
theorem lay_w (c : Cp) (n : BitVec 64) : W2.val { hi := BitVec.signExtend 64 (v_bounds_truth ((c.ad + n).ult n)), lo := c.ad + n } = c.ad.toNat + n.toNat ∧ (W2.mk (BitVec.signExtend 64 (v_bounds_truth ((c.ad + n).ult n))) (c.ad + n)).hi.toNat < 2 := by
  have h1 := c.ad.isLt
  have h2 := n.isLt
  constructor
  · unfold W2.val
    simp only [BitVec.signExtend_eq, truthN, ultN, BitVec.toNat_add]
    by_cases h : (c.ad.toNat + n.toNat) % 2 ^ 64 < n.toNat
    · rw [decide_eq_true h, cond_true]; omega
    · rw [decide_eq_false h, cond_false]; omega
  · show (BitVec.signExtend 64 (v_bounds_truth ((c.ad + n).ult n))).toNat < 2
    rw [BitVec.signExtend_eq]
    have := truth_lt ((c.ad + n).ult n)
    omega
theorem bigN (n : BitVec 64) : (n >>> 12 &&& 1#64) = n >>> 12 % 2#64 := and1 _
theorem lay_eq (c : Cp) (n : BitVec 64) : v_r03_Lay c n = v_bounds_Lay c n := by
  have hE : (v_layl_loop { n := n, a5 := false, en := c.ad + n, e := 0#64, i := 13#64, c := c, d := { tag := false, per := BitVec.ofInt IntKind.i64.bits 0, ty := BitVec.ofInt IntKind.i64.bits 0, mo := BitVec.ofInt IntKind.i64.bits 0, e := BitVec.ofInt IntKind.i64.bits 0, b := BitVec.ofInt IntKind.i64.bits 0, t := BitVec.ofInt IntKind.i64.bits 0, big := false, ad := BitVec.ofInt IntKind.u64.bits 0 }, w := { hi := BitVec.signExtend 64 (v_r03_one ((c.ad + n).ult n)), lo := c.ad + n } }).e = expo n := layl_e (layS0 c n) rfl rfl
  have hw : (v_layl_loop { n := n, a5 := false, en := c.ad + n, e := 0#64, i := 13#64, c := c, d := { tag := false, per := BitVec.ofInt IntKind.i64.bits 0, ty := BitVec.ofInt IntKind.i64.bits 0, mo := BitVec.ofInt IntKind.i64.bits 0, e := BitVec.ofInt IntKind.i64.bits 0, b := BitVec.ofInt IntKind.i64.bits 0, t := BitVec.ofInt IntKind.i64.bits 0, big := false, ad := BitVec.ofInt IntKind.u64.bits 0 }, w := { hi := BitVec.signExtend 64 (v_r03_one ((c.ad + n).ult n)), lo := c.ad + n } }).w = { hi := BitVec.signExtend 64 (v_bounds_truth ((c.ad + n).ult n)), lo := c.ad + n } := rfl
  have hc : (v_layl_loop { n := n, a5 := false, en := c.ad + n, e := 0#64, i := 13#64, c := c, d := { tag := false, per := BitVec.ofInt IntKind.i64.bits 0, ty := BitVec.ofInt IntKind.i64.bits 0, mo := BitVec.ofInt IntKind.i64.bits 0, e := BitVec.ofInt IntKind.i64.bits 0, b := BitVec.ofInt IntKind.i64.bits 0, t := BitVec.ofInt IntKind.i64.bits 0, big := false, ad := BitVec.ofInt IntKind.u64.bits 0 }, w := { hi := BitVec.signExtend 64 (v_r03_one ((c.ad + n).ult n)), lo := c.ad + n } }).c = c := rfl
  have hn : (v_layl_loop { n := n, a5 := false, en := c.ad + n, e := 0#64, i := 13#64, c := c, d := { tag := false, per := BitVec.ofInt IntKind.i64.bits 0, ty := BitVec.ofInt IntKind.i64.bits 0, mo := BitVec.ofInt IntKind.i64.bits 0, e := BitVec.ofInt IntKind.i64.bits 0, b := BitVec.ofInt IntKind.i64.bits 0, t := BitVec.ofInt IntKind.i64.bits 0, big := false, ad := BitVec.ofInt IntKind.u64.bits 0 }, w := { hi := BitVec.signExtend 64 (v_r03_one ((c.ad + n).ult n)), lo := c.ad + n } }).n = n := rfl
  have hen : (v_layl_loop { n := n, a5 := false, en := c.ad + n, e := 0#64, i := 13#64, c := c, d := { tag := false, per := BitVec.ofInt IntKind.i64.bits 0, ty := BitVec.ofInt IntKind.i64.bits 0, mo := BitVec.ofInt IntKind.i64.bits 0, e := BitVec.ofInt IntKind.i64.bits 0, b := BitVec.ofInt IntKind.i64.bits 0, t := BitVec.ofInt IntKind.i64.bits 0, big := false, ad := BitVec.ofInt IntKind.u64.bits 0 }, w := { hi := BitVec.signExtend 64 (v_r03_one ((c.ad + n).ult n)), lo := c.ad + n } }).en = c.ad + n := rfl
  obtain ⟨w1, w2⟩ := lay_w c n
  have f1 : W2.val { hi := 0#64, lo := c.ad } = c.ad.toNat := by unfold W2.val; simp
  have f2 : (W2.mk 0#64 c.ad).hi.toNat < 2 := by show (0#64).toNat < 2; decide
  have t1 := plusLoN c.ad n
  have t2 : (v_bounds_number_plus ⟨0#64, c.ad⟩ ⟨0#64, n⟩).hi.toNat < 2 := by rw [plus_add]; exact add_hi _ _
  have t3 : (v_bounds_number_plus ⟨0#64, c.ad⟩ ⟨0#64, n⟩).lo = c.ad + n := rfl
  have x0 := expoN n
  have xb := blen_le n.isLt
  have x1 : (expo n + 1#64).toNat = (expo n).toNat + 1 := by rw [BitVec.toNat_add, show (1#64).toNat = 1 from rfl]; omega
  have m1 := mant_val _ _ f2 t2 (expo n) (by omega)
  have m2 := mant_val _ _ f2 t2 (expo n + 1#64) (by omega)
  have k1 := cutv _ f2 (expo n) (by omega)
  have k2 := cutv _ f2 (expo n + 1#64) (by omega)
  have k3 := cutv _ w2 (expo n) (by omega)
  have k4 := cutv _ w2 (expo n + 1#64) (by omega)
  rw [f1, t1] at m1 m2
  rw [f1] at k1 k2
  rw [w1] at k3 k4
  rw [x1] at m2 k2 k4
  have n1 := cL_next c.ad.toNat ((expo n).toNat + 3)
  have n2 := cL_next (c.ad.toNat + n.toNat) ((expo n).toNat + 3)
  have e3 : (expo n).toNat + 1 + 3 = (expo n).toNat + 3 + 1 := by omega
  rw [e3] at m2 k2 k4
  rw [n1, n2] at m2
  have fold : (bif (0#64).slt (v_bits_Len64 n - 13#64) then v_bits_Len64 n - 13#64 else 0#64) = expo n := rfl
  unfold v_r03_Lay v_bounds_Lay
  simp only [hE, hw, hc, hn, hen]
  simp only [fold, one_truth, m1, m2, k1, k2, k3, k4, t3, bigN]
  clear hE hw hc hn hen m1 m2 k1 k2 k3 k4
  have l1 := cN_lt c.ad.toNat ((expo n).toNat + 3)
  have l2 := cN_lt c.ad.toNat ((expo n).toNat + 3 + 1)
  have l3 := cN_lt (c.ad.toNat + n.toNat) ((expo n).toNat + 3)
  have l4 := cN_lt (c.ad.toNat + n.toNat) ((expo n).toNat + 3 + 1)
  generalize cN c.ad.toNat ((expo n).toNat + 3) = b1 at *
  generalize cN c.ad.toNat ((expo n).toNat + 3 + 1) = b2 at *
  generalize cN (c.ad.toNat + n.toNat) ((expo n).toNat + 3) = c1 at *
  generalize cN (c.ad.toNat + n.toNat) ((expo n).toNat + 3 + 1) = c2 at *
  generalize cL c.ad.toNat ((expo n).toNat + 3) = lb
  generalize cL (c.ad.toNat + n.toNat) ((expo n).toNat + 3) = lt
  have d0 : v_bounds_truth true = 1#64 := rfl
  have d1 : v_bounds_truth false = 0#64 := rfl
  have ts : ∀ x : Bool, (c1 + v_bounds_truth x).toNat < 9223372036854775808 := fun x => by
    have := truth_lt x
    rw [BitVec.toNat_add]; omega
  have us : ∀ x : Bool, (c2 + v_bounds_truth x).toNat < 9223372036854775808 := fun x => by
    have := truth_lt x
    rw [BitVec.toNat_add]; omega
  have far := far_eq ((c1 + v_bounds_truth lt).srem 2048#64) b1 (srem_lt _ (ts lt)) l1
  have a16 : c.ad &&& 16383#64 = c.ad % 16384#64 := by
    apply BitVec.eq_of_toNat_eq
    rw [and16383, BitVec.toNat_umod]; rfl
  have a12 : (c.ad + n) &&& 4095#64 = (c.ad + n) % 4096#64 := by
    apply BitVec.eq_of_toNat_eq
    rw [and4095, BitVec.toNat_umod]; rfl
  simp only [far, a16, a12, (low3 _ l1).1, (low3 _ l2).1, (low3 _ (srem_lt _ (ts lt))).2, fun x => (low3 _ (srem_lt _ (us x))).2]
  cases lb <;> cases lt <;> simp only [d0, d1, same_mod c1 l3, cond_true, cond_false, Bool.true_or, Bool.false_or, Bool.not_true, Bool.not_false]
end Go.Sx

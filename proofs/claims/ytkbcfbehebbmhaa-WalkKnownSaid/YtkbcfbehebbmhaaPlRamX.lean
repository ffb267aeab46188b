/- The document's memory: its loops. -/
import Derived.Test.YtkbcfbehebbmhaaVl11f
import Derived.Test.YtkbcfbehebbmhaaPlRamT
set_option linter.unusedSimpArgs false
set_option linter.unusedVariables false
set_option linter.unnecessarySimpa false
namespace Go.Sx
open Go
def xgetGo (d : List (List AV)) (o : Nat) : Nat → BitVec 64 → BitVec 64
  | 0, v => v
  | k + 1, v => xgetGo d o k (v * 256#64 + BitVec.setWidth 64 (bA d (o + k)))
def v_xget (d : List (List AV)) (o n : Nat) : BitVec 64 := xgetGo d o n 0#64
theorem add_nat {a b : BitVec 64} (h : a.toNat + b.toNat < 2 ^ 64) : (a + b).toNat = a.toNat + b.toNat := by
  rw [BitVec.toNat_add]; exact Nat.mod_eq_of_lt h
theorem ofNat_dec (k : Nat) : BitVec.ofNat 64 (k + 1) - 1#64 = BitVec.ofNat 64 k := by
  apply BitVec.eq_of_toNat_eq
  simp only [BitVec.toNat_sub, BitVec.toNat_ofNat]
  omega
theorem dec_lt : (0#64).sle (BitVec.ofNat 64 0 - 1#64) = false := by decide
theorem mxa_rn (n t m : Nat) (d : List (List AV)) (mt : Nat) (T : List (List AV)) (off : BitVec 64) (hm : n ≤ m) (hn : n ≤ 65536) : ∀ (k : Nat) (v : BitVec 64), off.toNat + k ≤ n →
    Rn mxaStep (.a n t m d mt T off v (BitVec.ofNat 64 k - 1#64)) (.fine n t m d mt T (xgetGo d off.toNat k v)) := by
  intro k
  induction k with
  | zero => intro v h; refine .last ?_; simp only [mxaStep, dec_lt, cond_false, xgetGo]
  | succ k ih =>
    intro v h
    have hk : (BitVec.ofNat 64 k).toNat = k := ofNat_toNat (by omega)
    have ha : (off + BitVec.ofNat 64 k).toNat = off.toNat + k := by rw [add_nat (by omega), hk]
    rw [ofNat_dec]
    refine .next (y := .a n t m d mt T off (v * 256#64 + BitVec.setWidth 64 (bA d (off.toNat + k))) (BitVec.ofNat 64 k - 1#64)) ?_ (ih _ (by omega))
    simp only [mxaStep]
    rw [sle_nat (by decide) (by omega), nonneg_lt (by omega), ha, hk]
    rw [decide_eq_true (show (0#64).toNat ≤ k by simp), decide_eq_true (show off.toNat + k < n by omega), decide_eq_true (show 0 + (off.toNat + k) < m by omega), Nat.zero_add]
    rfl
def g_xa (n m : Nat) (off c : BitVec 64) : Bool := Nat.ble n m && (Nat.ble n 65536 && Nat.ble (off.toNat + c.toNat) n)
theorem g_xa_iff {n m : Nat} {off c : BitVec 64} : g_xa n m off c = true ↔ n ≤ m ∧ n ≤ 65536 ∧ off.toNat + c.toNat ≤ n := by
  simp only [g_xa, Bool.and_eq_true, Nat.ble_eq]
def mxaCps : Cps MxaS := fun R x K => match x with
  | .a n t m d mt T off v i => cond (g_xa n m off (i + 1#64) && v == 0#64) (K (.exit 0) (tmOf [8] [.int .u64 (v_xget d off.toNat (i + 1#64).toNat)])
      [(0, ⟨true, [.cell (.slice ⟨1, 0, 0, 1, 0⟩ 1 n), .cell (.slice ⟨2, 0, 0, 1, 0⟩ 1 t)]⟩), (1, ⟨true, [.arr [.int .u8] m d]⟩), (2, ⟨true, [.arr [.bool] mt T]⟩)] 3) none
theorem mxaCps_ok (R : Type) (x : MxaS) (K : Out → TM → Heap → Nat → Option R) (r : R) (h : mxaCps R x K = some r) : ∃ z, Rn mxaStep x z ∧ K (mxaO z) (tmOf [8] (mxaV z)) (mxaG z) (mxaM z) = some r := by
  cases x with
  | a n t m d mt T off v i =>
    obtain ⟨hg, hk⟩ := condK h
    simp only [Bool.and_eq_true, beq_iff_eq] at hg
    obtain ⟨hg, rfl⟩ := hg
    obtain ⟨h1, h2, h3⟩ := g_xa_iff.1 hg
    have e : i = BitVec.ofNat 64 (i + 1#64).toNat - 1#64 := by rw [BitVec.ofNat_toNat, BitVec.setWidth_eq]; exact (BitVec.add_sub_cancel i 1#64).symm
    have hr := mxa_rn n t m d mt T off h1 h2 (i + 1#64).toNat 0#64 h3
    rw [← e] at hr
    exact ⟨_, hr, hk⟩
/-! ### a store -/
def v_xclr (T : List (List AV)) (o n : Nat) : List (List AV) := (List.range n).foldl (fun T i => T.set ((o + i) / 16) [.bool false]) T
theorem v_xclr_succ (T : List (List AV)) (o n : Nat) : v_xclr T o (n + 1) = (v_xclr T o n).set ((o + n) / 16) [.bool false] := by
  simp [v_xclr, List.range_succ, List.foldl_append]
theorem v_xclr_len (T : List (List AV)) (o : Nat) : ∀ n, (v_xclr T o n).length = T.length
  | 0 => rfl
  | n + 1 => by rw [v_xclr_succ, List.length_set, v_xclr_len T o n]
theorem div16 (x : BitVec 64) (h : x.toNat < 2 ^ 63) : (x.sdiv 16#64).toNat = x.toNat / 16 := by
  rw [sdivN x 16#64 (by decide) h, BitVec.toNat_udiv]; rfl
theorem mxb_rn (n t m : Nat) (d : List (List AV)) (mt : Nat) (T : List (List AV)) (off size v : BitVec 64) (hm : n ≤ m) (hd : d.length = m) (hn : n ≤ 65536) (ht : n ≤ 16 * t) (hmt : t ≤ mt) (hT : T.length = mt) (hle : off.toNat + size.toNat ≤ n) (h16 : size.toNat ≤ 16) : ∀ (k i : Nat), size.toNat - i = k → i ≤ size.toNat →
    Rn mxbStep (.a n t m (v_put d off.toNat i v) mt (v_xclr T off.toNat i) off size v (BitVec.ofNat 64 i)) (.fine n t m (v_put d off.toNat size.toNat v) mt (v_xclr T off.toNat size.toNat)) := by
  intro k
  induction k with
  | zero =>
    intro i hk hi
    have e : i = size.toNat := by omega
    subst e
    refine .last ?_
    simp only [mxbStep]
    rw [slt_nat (by rw [ofNat_toNat (by omega)]; omega) (by omega), ofNat_toNat (by omega), decide_eq_false (by omega)]; rfl
  | succ k ih =>
    intro i hk hi
    have e := ofNat_inc (i := i) (by omega)
    have hi2 : (BitVec.ofNat 64 i).toNat = i := ofNat_toNat (by omega)
    have ha : (off + BitVec.ofNat 64 i).toNat = off.toNat + i := by rw [add_nat (by omega), hi2]
    have hq := div16 (off + BitVec.ofNat 64 i) (by omega)
    rw [ha] at hq
    refine .next (y := .a n t m (v_put d off.toNat (i + 1) v) mt (v_xclr T off.toNat (i + 1)) off size v (BitVec.ofNat 64 (i + 1))) ?_ (ih (i + 1) (by omega) (by omega))
    simp only [mxbStep]
    have h8 := mul8 (i := i) (by omega)
    rw [slt_nat (by omega) (by omega), nonneg_lt (by omega), nonneg_lt (by omega), ha, hq, hi2, BitVec.signExtend_eq, h8, v_put_len, v_xclr_len, e, v_put_succ, v_xclr_succ]
    rw [decide_eq_true (show i < size.toNat by omega), decide_eq_true (show off.toNat + i < n by omega), decide_eq_true (show 0 + (off.toNat + i) < m by omega), decide_eq_true (show 0 + (off.toNat + i) < d.length by omega), decide_eq_true (show (off.toNat + i) / 16 < t by omega), decide_eq_true (show 0 + (off.toNat + i) / 16 < mt by omega), decide_eq_true (show 0 + (off.toNat + i) / 16 < T.length by omega), Nat.zero_add, Nat.zero_add]
    rfl
def g_xb (n t m : Nat) (d : List (List AV)) (mt : Nat) (T : List (List AV)) (off size : BitVec 64) : Bool :=
  Nat.ble n m && (Nat.beq d.length m && (Nat.ble n 65536 && (Nat.ble n (16 * t) && (Nat.ble t mt && (Nat.beq T.length mt && (Nat.ble (off.toNat + size.toNat) n && Nat.ble size.toNat 16))))))
theorem g_xb_iff {n t m : Nat} {d : List (List AV)} {mt : Nat} {T : List (List AV)} {off size : BitVec 64} : g_xb n t m d mt T off size = true ↔ n ≤ m ∧ d.length = m ∧ n ≤ 65536 ∧ n ≤ 16 * t ∧ t ≤ mt ∧ T.length = mt ∧ off.toNat + size.toNat ≤ n ∧ size.toNat ≤ 16 := by
  simp only [g_xb, Bool.and_eq_true, beq_true, Nat.ble_eq]
def mxbCps : Cps MxbS := fun R x K => match x with
  | .a n t m d mt T off size v i => cond (g_xb n t m d mt T off size && i == 0#64) (K (.exit 0) (tmOf [] [])
      [(0, ⟨true, [.cell (.slice ⟨1, 0, 0, 1, 0⟩ 1 n), .cell (.slice ⟨2, 0, 0, 1, 0⟩ 1 t)]⟩), (1, ⟨true, [.arr [.int .u8] m (v_put d off.toNat size.toNat v)]⟩), (2, ⟨true, [.arr [.bool] mt (v_xclr T off.toNat size.toNat)]⟩)] 3) none
theorem mxbCps_ok (R : Type) (x : MxbS) (K : Out → TM → Heap → Nat → Option R) (r : R) (h : mxbCps R x K = some r) : ∃ z, Rn mxbStep x z ∧ K (mxbO z) (tmOf [] (mxbV z)) (mxbG z) (mxbM z) = some r := by
  cases x with
  | a n t m d mt T off size v i =>
    obtain ⟨hg, hk⟩ := condK h
    simp only [Bool.and_eq_true, beq_iff_eq] at hg
    obtain ⟨hg, rfl⟩ := hg
    obtain ⟨h1, h2, h3, h4, h5, h6, h7, h8⟩ := g_xb_iff.1 hg
    exact ⟨_, mxb_rn n t m d mt T off size v h1 h2 h3 h4 h5 h6 h7 h8 _ 0 rfl (by omega), hk⟩
/-! ### where tags are -/
def cB (T : List (List AV)) (j : Nat) : Bool := ((T.getD j []).headD .any).asBool
def v_xtagged (T : List (List AV)) (t : Nat) : List (List AV) := tgs (cB T) t
def mxdA (n t m : Nat) (d : List (List AV)) (mt : Nat) (T l : List (List AV)) (i : BitVec 64) : MxdS := match l with
  | [] => .z n t m d mt T i
  | _ :: _ => .s n t m d mt T l.length l.length l i
def mxdB (n t m : Nat) (d : List (List AV)) (mt : Nat) (T l : List (List AV)) : MxdE := match l with
  | [] => .z n t m d mt T
  | _ :: _ => .s n t m d mt T l.length l.length l
theorem mxd_step (n t m : Nat) (d : List (List AV)) (mt : Nat) (T l : List (List AV)) (j : Nat) (hj : j < t) (ht : t ≤ mt) (hn : t ≤ 65536) (hl : l.length ≤ j) :
    mxdStep (mxdA n t m d mt T l (BitVec.ofNat 64 j)) = some (.inl (mxdA n t m d mt T (cond (cB T j) (l ++ [[.int .i64 (BitVec.ofNat 64 (16 * j))]]) l) (BitVec.ofNat 64 (j + 1)))) := by
  have hi : (BitVec.ofNat 64 j).toNat = j := ofNat_toNat (by omega)
  have e := ofNat_inc (i := j) (by omega)
  have c1 := slt_len (x := BitVec.ofNat 64 j) (n := t) (by omega) (by omega)
  rw [hi, decide_eq_true hj] at c1
  have c2 := nonneg_lt (x := BitVec.ofNat 64 j) (by omega)
  have e16 : 16#64 * BitVec.ofNat 64 j = BitVec.ofNat 64 (16 * j) := by
    apply BitVec.eq_of_toNat_eq
    rw [BitVec.toNat_mul, hi, ofNat_toNat (n := 16 * j) (by omega), show (16#64).toNat = 16 from rfl]; omega
  cases l with
  | nil =>
    simp only [mxdA, mxdStep, c1, c2, e, e16, hi, decide_eq_true hj, decide_eq_true (show 0 + j < mt by omega), Nat.zero_add, Bool.and_true, cond_true, decide_eq_true (show j < mt by omega)]
    show cond (cB T j) _ _ = _
    cases cB T j <;> rfl
  | cons r l =>
    have c4 : v_room ((r :: l).length + 1) 8 = true := room_le (by omega)
    simp only [mxdA, mxdStep, c1, c2, c4, e, e16, hi, decide_eq_true hj, decide_eq_true (show j < mt by omega), decide_eq_true (show (r :: l).length ≤ (r :: l).length by omega), decide_eq_true (show (r :: l).length = (r :: l).length from rfl), List.drop_zero, List.take_length, Nat.zero_add, Bool.and_true, cond_true]
    show cond (cB T j) _ _ = _
    cases cB T j with
    | true =>
      simp only [cond_true]
      have : (r :: l ++ [[AV.int IntKind.i64 (BitVec.ofNat 64 (16 * j))]]).length = (r :: l).length + 1 := by simp
      show _ = some (Sum.inl (MxdS.s n t m d mt T (r :: l ++ [[AV.int IntKind.i64 (BitVec.ofNat 64 (16 * j))]]).length (r :: l ++ [[AV.int IntKind.i64 (BitVec.ofNat 64 (16 * j))]]).length (r :: l ++ [[AV.int IntKind.i64 (BitVec.ofNat 64 (16 * j))]]) _))
      rw [this]
      rfl
    | false => rfl
theorem mxd_rn (n t m : Nat) (d : List (List AV)) (mt : Nat) (T : List (List AV)) (ht : t ≤ mt) (hn : t ≤ 65536) : ∀ (k j : Nat), t - j = k → j ≤ t →
    Rn mxdStep (mxdA n t m d mt T (tgs (cB T) j) (BitVec.ofNat 64 j)) (mxdB n t m d mt T (v_xtagged T t)) := by
  intro k
  induction k with
  | zero =>
    intro j hk hj
    have e : j = t := by omega
    subst e
    refine .last ?_
    unfold v_xtagged
    have c1 : (BitVec.ofNat 64 j).slt (BitVec.ofNat 64 j) = false := by rw [slt_nat (by rw [ofNat_toNat (by omega)]; omega) (by rw [ofNat_toNat (by omega)]; omega)]; exact decide_eq_false (by omega)
    generalize tgs (cB T) j = l
    cases l <;> simp only [mxdA, mxdB, mxdStep, c1, cond_false]
  | succ k ih =>
    intro j hk hj
    refine .next (mxd_step n t m d mt T _ j (by omega) ht hn (tgs_len _ _)) ?_
    rw [← tgs_succ (cB T) j]
    exact ih (j + 1) (by omega) (by omega)
def g_xd (t mt : Nat) : Bool := Nat.ble t mt && Nat.ble t 65536
def mxdCps : Cps MxdS := fun R x K => match x with
  | .z n t m d mt T i => cond (g_xd t mt && i == 0#64) (cond (v_emp (v_xtagged T t))
      (K (.exit 0) (tmOf [3] [.nilslice]) [(0, ⟨true, [.cell (.slice ⟨1, 0, 0, 1, 0⟩ 1 n), .cell (.slice ⟨2, 0, 0, 1, 0⟩ 1 t)]⟩), (1, ⟨true, [.arr [.int .u8] m d]⟩), (2, ⟨true, [.arr [.bool] mt T]⟩)] 3)
      (K (.exit 0) (tmOf [3] [.slice ⟨3, 0, 0, 1, 0⟩ 1 (v_xtagged T t).length]) [(0, ⟨true, [.cell (.slice ⟨1, 0, 0, 1, 0⟩ 1 n), .cell (.slice ⟨2, 0, 0, 1, 0⟩ 1 t)]⟩), (1, ⟨true, [.arr [.int .u8] m d]⟩), (2, ⟨true, [.arr [.bool] mt T]⟩), (3, ⟨true, [.arr [.int .i64] (v_xtagged T t).length (v_xtagged T t)]⟩)] 4)) none
  | .s .. => none
theorem mxdCps_ok (R : Type) (x : MxdS) (K : Out → TM → Heap → Nat → Option R) (r : R) (h : mxdCps R x K = some r) : ∃ z, Rn mxdStep x z ∧ K (mxdO z) (tmOf [3] (mxdV z)) (mxdG z) (mxdM z) = some r := by
  cases x with
  | s => simp [mxdCps] at h
  | z n t m d mt T i =>
    obtain ⟨hg, hk⟩ := condK h
    clear h
    simp only [g_xd, Bool.and_eq_true, beq_iff_eq, Nat.ble_eq] at hg
    obtain ⟨⟨h1, h2⟩, rfl⟩ := hg
    have hr := mxd_rn n t m d mt T h1 h2 _ 0 rfl (by omega)
    refine ⟨_, hr, ?_⟩
    cases hl : v_xtagged T t with
    | nil => rw [hl] at hk; exact hk
    | cons r l => rw [hl] at hk; exact hk
end Go.Sx

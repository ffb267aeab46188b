/- The plain law of capabilities' fields: each stands in bits of its own. -/
import Derived.Test.YtckpnfngkncanaaYtcPlain3
set_option linter.unusedSimpArgs false
set_option linter.unusedVariables false
namespace Go.Proofs.Ytckpnfngkncanaa
open Go Go.Sx

theorem keep (x y m : BitVec 64) (h : ∀ i, i < 64 → m.getLsbD i = true → x.getLsbD i = y.getLsbD i) : (x &&& m == y &&& m) = true := by
  rw [beq_iff_eq]
  apply BitVec.eq_of_getLsbD_eq
  intro i hi
  rw [BitVec.getLsbD_and, BitVec.getLsbD_and]
  cases hm : m.getLsbD i with
  | false => simp
  | true => rw [h i hi hm]
theorem take3 (n o m k k' : BitVec 64) (hk : k &&& k' = 0#64) (h : ∀ i, i < 64 → k.getLsbD i = true → n.getLsbD i = o.getLsbD i) : (n &&& k == o &&& k ||| m &&& k &&& k') = true := by
  rw [BitVec.and_assoc, hk, BitVec.and_zero, BitVec.or_zero]
  exact keep n o k h

/-- A capability's number that is not big, bit by bit. -/
def Q (b t ty mo per : BitVec 64) : BitVec 64 := 0#64 ||| (b &&& 16383#64) <<< 0 ||| (t &&& 4095#64) <<< 14 ||| 0#64 ||| (ty &&& 262143#64) <<< 27 ||| (mo &&& 1#64) <<< 45 ||| (per &&& 65535#64) <<< 46
def qbit (b t ty mo per : BitVec 64) (i : Nat) : Bool :=
  if i < 14 then b.getLsbD i else if i < 26 then t.getLsbD (i - 14) else if i < 27 then false else if i < 45 then ty.getLsbD (i - 27) else if i < 46 then mo.getLsbD (i - 45) else if i < 62 then per.getLsbD (i - 46) else false
theorem maskbit (w i : Nat) (hw : w < 64) (hi : i < 64) : (BitVec.ofNat 64 (2 ^ w - 1)).getLsbD i = decide (i < w) := by
  rw [BitVec.getLsbD_ofNat, Nat.testBit_two_pow_sub_one]; simp [hi]
theorem laybit (v : BitVec 64) (w s i : Nat) (hw : w < 64) (hi : i < 64) : ((v &&& BitVec.ofNat 64 (2 ^ w - 1)) <<< s).getLsbD i = (decide (s ≤ i ∧ i < s + w) && v.getLsbD (i - s)) := by
  rw [BitVec.getLsbD_shiftLeft, BitVec.getLsbD_and, maskbit w (i - s) hw (by omega)]
  by_cases h1 : i < s
  · simp [h1, hi]; omega
  · by_cases h2 : i - s < w
    · simp [h1, hi, h2, show s ≤ i by omega, show i < s + w by omega]
    · simp [h1, hi, h2, show s ≤ i by omega, show ¬ i < s + w by omega]
theorem Q_bit (b t ty mo per : BitVec 64) (i : Nat) (hi : i < 64) : (Q b t ty mo per).getLsbD i = qbit b t ty mo per i := by
  unfold Q qbit
  have a1 := laybit b 14 0 i (by decide) hi
  have a2 := laybit t 12 14 i (by decide) hi
  have a3 := laybit ty 18 27 i (by decide) hi
  have a4 := laybit mo 1 45 i (by decide) hi
  have a5 := laybit per 16 46 i (by decide) hi
  simp only [Nat.reducePow, Nat.reduceSub] at a1 a2 a3 a4 a5
  simp only [BitVec.getLsbD_or, BitVec.getLsbD_zero, a1, a2, a3, a4, a5]
  by_cases h1 : i < 14
  · simp [h1, show ¬ 14 ≤ i by omega, show ¬ 27 ≤ i by omega, show ¬ 45 ≤ i by omega, show ¬ 46 ≤ i by omega]
  by_cases h2 : i < 26
  · simp [h1, h2, show 14 ≤ i by omega, show ¬ 27 ≤ i by omega, show ¬ 45 ≤ i by omega, show ¬ 46 ≤ i by omega]
  by_cases h3 : i < 27
  · simp [h1, h2, h3, show ¬ 27 ≤ i by omega, show ¬ 45 ≤ i by omega, show ¬ 46 ≤ i by omega]
  by_cases h4 : i < 45
  · simp [h1, h2, h3, h4, show 27 ≤ i by omega, show ¬ 45 ≤ i by omega, show ¬ 46 ≤ i by omega]
  by_cases h5 : i < 46
  · simp [h1, h2, h3, h4, h5, show 45 ≤ i by omega, show ¬ 46 ≤ i by omega]
  by_cases h6 : i < 62
  · simp [h1, h2, h3, h4, h5, h6, show 46 ≤ i by omega]
  simp [h1, h2, h3, h4, h5, h6]

theorem v25_Q (c : Cp) (hb : c.big = false) : v_25 c = Q c.b c.t c.ty c.mo c.per := by
  unfold v_25 Q
  rw [hb]
  simp only [BitVec.signExtend_eq, cond_false]
theorem Qx_bit (b t ty mo per : BitVec 64) (i : Nat) (hi : i < 64) : (Q b t ty mo per ^^^ 35184305078276#64).getLsbD i = ((qbit b t ty mo per i) ^^ (35184305078276#64).getLsbD i) := by
  rw [BitVec.getLsbD_xor, Q_bit _ _ _ _ _ i hi]
theorem keepQ {b t ty mo per b' t' ty' mo' per' : BitVec 64} (m : BitVec 64) (p : Nat → Prop) [DecidablePred p] (hm : ∀ i : Fin 64, m.getLsbD i = decide (p i)) (h : ∀ i, i < 64 → p i → qbit b t ty mo per i = qbit b' t' ty' mo' per' i) :
    ((Q b t ty mo per ^^^ 35184305078276#64) &&& m == (Q b' t' ty' mo' per' ^^^ 35184305078276#64) &&& m) = true := by
  refine keep _ _ m fun i hi hmi => ?_
  rw [Qx_bit _ _ _ _ _ i hi, Qx_bit _ _ _ _ _ i hi, h i hi (of_decide_eq_true ((hm ⟨i, hi⟩).symm.trans hmi))]
theorem takeQ {b t ty mo per b' t' ty' mo' per' : BitVec 64} (o k k' : BitVec 64) (hk : k &&& k' = 0#64) (p : Nat → Prop) [DecidablePred p] (hm : ∀ i : Fin 64, k.getLsbD i = decide (p i)) (h : ∀ i, i < 64 → p i → qbit b t ty mo per i = qbit b' t' ty' mo' per' i) :
    ((Q b t ty mo per ^^^ 35184305078276#64) &&& k == (Q b' t' ty' mo' per' ^^^ 35184305078276#64) &&& k ||| o &&& k &&& k') = true := by
  refine take3 _ _ _ k k' hk fun i hi hmi => ?_
  rw [Qx_bit _ _ _ _ _ i hi, Qx_bit _ _ _ _ _ i hi, h i hi (of_decide_eq_true ((hm ⟨i, hi⟩).symm.trans hmi))]
theorem fields (c d : Cp) (f : BitVec 64) : v_8 c d f = true := by
  have q1 := fun (tag : Bool) (per ty mo e b t ad : BitVec 64) => v25_Q ⟨tag, per, ty, mo, e, b, t, false, ad⟩ rfl
  unfold v_8
  simp only [v15_eq, q1]
  obtain ⟨tag, per, ty, mo, e, b, t, big, ad⟩ := c
  obtain ⟨tag', per', ty', mo', e', b', t', big', ad'⟩ := d
  dsimp only
  rw [keepQ 18446744073709535232#64 (fun i => 14 ≤ i) (by decide) (fun i hi hp => by simp only [qbit]; (repeat' split) <;> (first | rfl | omega)),
    takeQ _ 16383#64 18446744073709535232#64 (by decide) (fun i => i < 14) (by decide) (fun i hi hp => by simp only [qbit]; (repeat' split) <;> (first | rfl | omega)),
    keepQ 18446744073642459135#64 (fun i => i < 14 ∨ 26 ≤ i) (by decide) (fun i hi hp => by simp only [qbit]; (repeat' split) <;> (first | rfl | omega)),
    takeQ _ 67092480#64 18446744073642459135#64 (by decide) (fun i => 14 ≤ i ∧ i < 26) (by decide) (fun i hi hp => by simp only [qbit]; (repeat' split) <;> (first | rfl | omega)),
    keepQ 18446708889471680511#64 (fun i => i < 27 ∨ 45 ≤ i) (by decide) (fun i hi hp => by simp only [qbit]; (repeat' split) <;> (first | rfl | omega)),
    takeQ _ 35184237871104#64 18446708889471680511#64 (by decide) (fun i => 27 ≤ i ∧ i < 45) (by decide) (fun i hi hp => by simp only [qbit]; (repeat' split) <;> (first | rfl | omega)),
    keepQ 18446708889337462783#64 (fun i => i < 45 ∨ 46 ≤ i) (by decide) (fun i hi hp => by simp only [qbit]; (repeat' split) <;> (first | rfl | omega)),
    takeQ _ 35184372088832#64 18446708889337462783#64 (by decide) (fun i => 45 ≤ i ∧ i < 46) (by decide) (fun i hi hp => by simp only [qbit]; (repeat' split) <;> (first | rfl | omega)),
    keepQ 13835128424026341375#64 (fun i => i < 46 ∨ 62 ≤ i) (by decide) (fun i hi hp => by simp only [qbit]; (repeat' split) <;> (first | rfl | omega)),
    takeQ _ 4611615649683210240#64 13835128424026341375#64 (by decide) (fun i => 46 ≤ i ∧ i < 62) (by decide) (fun i hi hp => by simp only [qbit]; (repeat' split) <;> (first | rfl | omega))]
  simp
end Go.Proofs.Ytckpnfngkncanaa

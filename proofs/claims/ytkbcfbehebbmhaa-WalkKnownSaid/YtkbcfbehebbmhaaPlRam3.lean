/- Memory: loads and stores, as answers. -/
import Derived.Test.YtkbcfbehebbmhaaVl11c
import Derived.Test.YtkbcfbehebbmhaaPlRam2
set_option linter.unusedSimpArgs false
set_option linter.unusedVariables false
set_option linter.unnecessarySimpa false
namespace Go.Sx
open Go
def g_ram (n : Nat) (tg : List (List AV)) (m : Nat) (d : List (List AV)) : Bool := Nat.beq m n && (Nat.beq d.length n && (Nat.beq tg.length 64 && (Nat.ble 4096 n && Nat.ble n 65536)))
theorem g_ram_iff {n : Nat} {tg : List (List AV)} {m : Nat} {d : List (List AV)} : g_ram n tg m d = true ↔ m = n ∧ d.length = n ∧ tg.length = 64 ∧ 4096 ≤ n ∧ n ≤ 65536 := by
  simp only [g_ram, Bool.and_eq_true, beq_true, Nat.ble_eq]
def v_clr (tg : List (List AV)) (o : Nat) : List (List AV) := tg.set (o / 1024) [.int .u64 (asU64 ((tg.getD (o / 1024) []).headD .any) &&& ~~~(1#64 <<< min (o / 16 % 64) 64))]
def v_lay (tg : List (List AV)) (o : Nat) : List (List AV) := tg.set (o / 1024) [.int .u64 (asU64 ((tg.getD (o / 1024) []).headD .any) ||| 1#64 <<< min (o / 16 % 64) 64)]
theorem v_clr_len (tg : List (List AV)) (o : Nat) : (v_clr tg o).length = tg.length := by simp [v_clr]
theorem v_lay_len (tg : List (List AV)) (o : Nat) : (v_lay tg o).length = tg.length := by simp [v_lay]
/-- A number's place: is it there? -/
def v_in (n : Nat) (off size : BitVec 64) : Bool := !off.slt 0#64 && !(BitVec.ofNat 64 n - size).slt off
def v_sized (size : BitVec 64) : Bool := size == 1#64 || (size == 2#64 || (size == 4#64 || size == 8#64))
def v_ok (n : Nat) (off size : BitVec 64) : Bool := v_sized size && v_in n off size
theorem v_in_iff {n : Nat} {off size : BitVec 64} (hn : n ≤ 65536) (hs : size.toNat ≤ n) : v_in n off size = true ↔ off.toNat + size.toNat ≤ n := by
  unfold v_in
  have e : (BitVec.ofNat 64 n - size).toNat = n - size.toNat := by
    rw [BitVec.toNat_sub, ofNat_toNat (n := n) (by omega)]; omega
  rw [Bool.and_eq_true, Bool.not_eq_true', Bool.not_eq_true']
  rw [sltR off 0#64 (by decide)]
  constructor
  · rintro ⟨h1, h2⟩
    have h1' : off.toNat < 2 ^ 63 := by simp at h1; omega
    rw [slt_nat (by omega) h1', decide_eq_false_iff_not, e] at h2
    omega
  · intro h
    have h1' : off.toNat < 2 ^ 63 := by omega
    refine ⟨by simp; omega, ?_⟩
    rw [slt_nat (by omega) h1', decide_eq_false_iff_not, e]
    omega
theorem v_sized_nat {size : BitVec 64} (h : v_sized size = true) : size.toNat = 1 ∨ size.toNat = 2 ∨ size.toNat = 4 ∨ size.toNat = 8 := by
  simp only [v_sized, Bool.or_eq_true, beq_iff_eq] at h
  rcases h with rfl | rfl | rfl | rfl <;> decide
theorem dq (x : BitVec 64) (h : x.toNat < 2 ^ 63) : ((x.sdiv 16#64).sdiv 64#64).toNat = x.toNat / 1024 ∧ ((x.sdiv 16#64).srem 64#64).toNat = x.toNat / 16 % 64 := by
  have h1 : x.sdiv 16#64 = x / 16#64 := sdivN x 16#64 (by decide) h
  have h2 : (x / 16#64).toNat = x.toNat / 16 := by rw [BitVec.toNat_udiv]; rfl
  rw [h1, sdivN _ 64#64 (by decide) (by omega), sremN _ 64#64 (by decide) (by omega), BitVec.toNat_udiv, BitVec.toNat_umod, h2]
  refine ⟨?_, rfl⟩
  show x.toNat / 16 / 64 = x.toNat / 1024
  rw [Nat.div_div_eq_div_mul]
theorem last_nat {off size : BitVec 64} (h : off.toNat + size.toNat < 2 ^ 63) (h1 : 1 ≤ size.toNat) : (off + size - 1#64).toNat = off.toNat + size.toNat - 1 := by
  rw [BitVec.toNat_sub, BitVec.toNat_add, show (1#64).toNat = 1 from rfl]; omega
def v_sD (n : Nat) (d : List (List AV)) (off size v : BitVec 64) : List (List AV) := cond (v_ok n off size) (v_put d off.toNat size.toNat v) d
def v_sT (n : Nat) (tg : List (List AV)) (off size : BitVec 64) : List (List AV) := cond (v_ok n off size) (v_clr (v_clr tg off.toNat) (off.toNat + size.toNat - 1)) tg
def mrsCps : ECps MrsS MrsR := fun R x K => match x with
  | .a n tg m d off size v => cond (g_ram n tg m d) (K (.a (v_ok n off size) n (v_sT n tg off size) m (v_sD n d off size v))) none
theorem mrs_in (n : Nat) (tg d : List (List AV)) (off size v : BitVec 64) (h1 : d.length = n) (h2 : tg.length = 64) (h3 : 4096 ≤ n) (h4 : n ≤ 65536) (hs : size = 1#64 ∨ size = 2#64 ∨ size = 4#64 ∨ size = 8#64) :
    mrsStep (.a n tg n d off size v) = some (.a (v_ok n off size) n (v_sT n tg off size) n (v_sD n d off size v)) := by
  have hsz : v_sized size = true := by rcases hs with rfl | rfl | rfl | rfl <;> rfl
  have hs8 : size.toNat = 1 ∨ size.toNat = 2 ∨ size.toNat = 4 ∨ size.toNat = 8 := v_sized_nat hsz
  have hin := v_in_iff (off := off) (size := size) h4 (by omega)
  have eok : v_ok n off size = v_in n off size := by unfold v_ok; rw [hsz]; rfl
  simp only [v_sT, v_sD, eok]
  have key : ∀ X : Option MrsR, (v_in n off size = true → X = some (.a true n (v_clr (v_clr tg off.toNat) (off.toNat + size.toNat - 1)) n (v_put d off.toNat size.toNat v))) →
      cond (off.slt 0#64) (some (.a false n tg n d)) (cond ((BitVec.ofNat 64 n - size).slt off) (some (.a false n tg n d)) X) =
        some (.a (v_in n off size) n (cond (v_in n off size) (v_clr (v_clr tg off.toNat) (off.toNat + size.toNat - 1)) tg) n (cond (v_in n off size) (v_put d off.toNat size.toNat v) d)) := by
    intro X hX
    unfold v_in at hX ⊢
    cases h0 : off.slt 0#64 with
    | true => rfl
    | false =>
      cases h5 : (BitVec.ofNat 64 n - size).slt off with
      | true => rfl
      | false => rw [h0, h5] at hX; simp only [cond_false, Bool.not_false, Bool.and_self, cond_true]; exact hX rfl
  have body : ∀ X : Option MrsR, (v_in n off size = true → off.toNat + size.toNat ≤ n → X = some (.a true n (v_clr (v_clr tg off.toNat) (off.toNat + size.toNat - 1)) n (v_put d off.toNat size.toNat v))) →
      (v_in n off size = true → X = some (.a true n (v_clr (v_clr tg off.toNat) (off.toNat + size.toNat - 1)) n (v_put d off.toNat size.toNat v))) := fun X h hi => h hi (hin.1 hi)
  rcases hs with hq | hq | hq | hq
  all_goals
    have q1 := congrArg (fun s => s == 1#64) hq
    have q2 := congrArg (fun s => s == 2#64) hq
    have q4 := congrArg (fun s => s == 4#64) hq
    have q8 := congrArg (fun s => s == 8#64) hq
    simp only [BitVec.reduceBEq] at q1 q2 q4 q8
    simp only [mrsStep, q1, q2, q4, q8, cond_true, cond_false]
    refine key _ (body _ fun _ hle => ?_)
    have ho : off.toNat < 2 ^ 63 := by omega
    obtain ⟨a1, a2⟩ := dq off ho
    have hl := last_nat (off := off) (size := size) (by omega) (by omega)
    obtain ⟨b1, b2⟩ := dq (off + size - 1#64) (by omega)
    rw [hl] at b1 b2
    have g1 : g_put n d off.toNat size.toNat = true := g_put_iff.2 ⟨by omega, h1, by omega⟩
    simp only [asI64_mk, a1, a2, b1, b2, g1, h2, List.length_set, nonneg_lt ho, nonneg_lt (show size.toNat < 2 ^ 63 by omega), Nat.zero_add, Nat.add_zero, Nat.sub_zero,
      decide_eq_true (show n ≤ n from Nat.le_refl _), decide_eq_true (show off.toNat < n by omega), decide_eq_true (show size.toNat ≤ n - off.toNat by omega), decide_eq_true (show 0 < size.toNat by omega),
      nonneg_lt (show ((off.sdiv 16#64).sdiv 64#64).toNat < 2 ^ 63 by omega), nonneg_lt (show ((off.sdiv 16#64).srem 64#64).toNat < 2 ^ 63 by omega),
      nonneg_lt (show (((off + size - 1#64).sdiv 16#64).sdiv 64#64).toNat < 2 ^ 63 by omega), nonneg_lt (show (((off + size - 1#64).sdiv 16#64).srem 64#64).toNat < 2 ^ 63 by omega),
      decide_eq_true (show off.toNat / 1024 < 64 by omega), decide_eq_true (show (off.toNat + size.toNat - 1) / 1024 < 64 by omega), Bool.and_true, Bool.true_and, Bool.true_or, cond_true]
    rfl
theorem mrsCps_ok : ECok mrsStep mrsCps := by
  intro R x K r h
  cases x with
  | a n tg m d off size v =>
    obtain ⟨hg, hk⟩ := condK h
    obtain ⟨rfl, h1, h2, h3, h4⟩ := g_ram_iff.1 hg
    refine ⟨_, ?_, hk⟩
    by_cases e1 : size = 1#64
    · exact mrs_in m tg d off size v h1 h2 h3 h4 (.inl e1)
    by_cases e2 : size = 2#64
    · exact mrs_in m tg d off size v h1 h2 h3 h4 (.inr (.inl e2))
    by_cases e4 : size = 4#64
    · exact mrs_in m tg d off size v h1 h2 h3 h4 (.inr (.inr (.inl e4)))
    by_cases e8 : size = 8#64
    · exact mrs_in m tg d off size v h1 h2 h3 h4 (.inr (.inr (.inr e8)))
    have hs : v_ok m off size = false := by
      unfold v_ok v_sized
      rw [beq_eq_false_iff_ne.2 e1, beq_eq_false_iff_ne.2 e2, beq_eq_false_iff_ne.2 e4, beq_eq_false_iff_ne.2 e8]; rfl
    simp only [mrsStep, v_sT, v_sD, hs, beq_eq_false_iff_ne.2 e1, beq_eq_false_iff_ne.2 e2, beq_eq_false_iff_ne.2 e4, beq_eq_false_iff_ne.2 e8, cond_false]
def v_okC (n : Nat) (off : BitVec 64) : Bool := v_in n off 16#64 && off.srem 16#64 == 0#64
def v_tT (n : Nat) (tg : List (List AV)) (off : BitVec 64) (t : Bool) : List (List AV) := cond (v_okC n off) (cond t (v_lay (v_clr tg off.toNat) off.toNat) (v_clr tg off.toNat)) tg
def v_tD (n : Nat) (d : List (List AV)) (off x y : BitVec 64) : List (List AV) := cond (v_okC n off) (v_put (v_put d off.toNat 8 x) (off.toNat + 8) 8 y) d
def mrtCps : ECps MrtS MrtR := fun R z K => match z with
  | .a n tg m d off t x y => cond (g_ram n tg m d) (K (.a (v_okC n off) n (v_tT n tg off t) m (v_tD n d off x y))) none
theorem mrtCps_ok : ECok mrtStep mrtCps := by
  intro R z K r h
  cases z with
  | a n tg m d off t x y =>
    obtain ⟨hg, hk⟩ := condK h
    obtain ⟨rfl, h1, h2, h3, h4⟩ := g_ram_iff.1 hg
    refine ⟨_, ?_, hk⟩
    have hin := v_in_iff (off := off) (size := 16#64) h4 (by rw [show (16#64).toNat = 16 from rfl]; omega)
    simp only [mrtStep, v_tT, v_tD, v_okC]
    unfold v_in at hin ⊢
    cases h0 : off.slt 0#64 with
    | true => rfl
    | false =>
      cases h5 : (BitVec.ofNat 64 m - 16#64).slt off with
      | true => rfl
      | false =>
        have hle : off.toNat + 16 ≤ m := hin.1 (by rw [h0, h5]; rfl)
        have ho : off.toNat < 2 ^ 63 := by omega
        obtain ⟨a1, a2⟩ := dq off ho
        have g1 : g_put m d off.toNat 8 = true := g_put_iff.2 ⟨by omega, h1, by omega⟩
        have g2 : g_put m (v_put d off.toNat 8 x) (off.toNat + 8) 8 = true := g_put_iff.2 ⟨by omega, by rw [v_put_len]; exact h1, by omega⟩
        simp only [a1, a2, g1, g2, h2, List.length_set, nonneg_lt ho, Nat.zero_add, Nat.add_zero,
          decide_eq_true (show m ≤ m from Nat.le_refl _), decide_eq_true (show off.toNat < m by omega), decide_eq_true (show 16 ≤ m - off.toNat by omega),
          nonneg_lt (show ((off.sdiv 16#64).sdiv 64#64).toNat < 2 ^ 63 by omega), nonneg_lt (show ((off.sdiv 16#64).srem 64#64).toNat < 2 ^ 63 by omega),
          decide_eq_true (show off.toNat / 1024 < 64 by omega), Bool.and_true, Bool.true_and, Bool.true_or, cond_true, cond_false, Bool.not_false]
        cases off.srem 16#64 == 0#64 <;> cases t <;> rfl
def v_lV (n : Nat) (d : List (List AV)) (off size : BitVec 64) : BitVec 64 := cond (v_ok n off size) (v_get d off.toNat size.toNat) 0#64
def mrlCps : ECps MrlS MrlR := fun R x K => match x with
  | .a n tg m d off size => cond (g_ram n tg m d) (K (.a (v_lV n d off size) (v_ok n off size) n tg m d)) none
theorem mrl_in (n : Nat) (tg d : List (List AV)) (off size : BitVec 64) (h1 : d.length = n) (h2 : tg.length = 64) (h3 : 4096 ≤ n) (h4 : n ≤ 65536) (hs : size = 1#64 ∨ size = 2#64 ∨ size = 4#64 ∨ size = 8#64) :
    mrlStep (.a n tg n d off size) = some (.a (v_lV n d off size) (v_ok n off size) n tg n d) := by
  have hsz : v_sized size = true := by rcases hs with rfl | rfl | rfl | rfl <;> rfl
  have hs8 : size.toNat = 1 ∨ size.toNat = 2 ∨ size.toNat = 4 ∨ size.toNat = 8 := v_sized_nat hsz
  have hin := v_in_iff (off := off) (size := size) h4 (by omega)
  have eok : v_ok n off size = v_in n off size := by unfold v_ok; rw [hsz]; rfl
  simp only [v_lV, eok]
  unfold v_in at hin ⊢
  rcases hs with hq | hq | hq | hq
  all_goals
    have q1 := congrArg (fun s => s == 1#64) hq
    have q2 := congrArg (fun s => s == 2#64) hq
    have q4 := congrArg (fun s => s == 4#64) hq
    have q8 := congrArg (fun s => s == 8#64) hq
    simp only [BitVec.reduceBEq] at q1 q2 q4 q8
    simp only [mrlStep, q1, q2, q4, q8, cond_true, cond_false]
    cases h0 : off.slt 0#64 with
    | true => rfl
    | false =>
      cases h5 : (BitVec.ofNat 64 n - size).slt off with
      | true => rfl
      | false =>
        have hle : off.toNat + size.toNat ≤ n := hin.1 (by rw [h0, h5]; rfl)
        have ho : off.toNat < 2 ^ 63 := by omega
        have g1 : g_get n off.toNat size.toNat = true := g_get_iff.2 ⟨by omega, by omega⟩
        simp only [g1, nonneg_lt ho, nonneg_lt (show size.toNat < 2 ^ 63 by omega), Nat.zero_add, Nat.add_zero, Nat.sub_zero, decide_eq_true (show n ≤ n from Nat.le_refl _), decide_eq_true (show off.toNat < n by omega),
          decide_eq_true (show size.toNat ≤ n - off.toNat by omega), decide_eq_true (show 0 < size.toNat by omega), Bool.and_true, Bool.true_and, Bool.true_or, cond_true, cond_false, Bool.not_false]
theorem mrlCps_ok : ECok mrlStep mrlCps := by
  intro R x K r h
  cases x with
  | a n tg m d off size =>
    obtain ⟨hg, hk⟩ := condK h
    obtain ⟨rfl, h1, h2, h3, h4⟩ := g_ram_iff.1 hg
    refine ⟨_, ?_, hk⟩
    by_cases e1 : size = 1#64
    · exact mrl_in m tg d off size h1 h2 h3 h4 (.inl e1)
    by_cases e2 : size = 2#64
    · exact mrl_in m tg d off size h1 h2 h3 h4 (.inr (.inl e2))
    by_cases e4 : size = 4#64
    · exact mrl_in m tg d off size h1 h2 h3 h4 (.inr (.inr (.inl e4)))
    by_cases e8 : size = 8#64
    · exact mrl_in m tg d off size h1 h2 h3 h4 (.inr (.inr (.inr e8)))
    have hs : v_ok m off size = false := by
      unfold v_ok v_sized
      rw [beq_eq_false_iff_ne.2 e1, beq_eq_false_iff_ne.2 e2, beq_eq_false_iff_ne.2 e4, beq_eq_false_iff_ne.2 e8]; rfl
    simp only [mrlStep, v_lV, hs, beq_eq_false_iff_ne.2 e1, beq_eq_false_iff_ne.2 e2, beq_eq_false_iff_ne.2 e4, beq_eq_false_iff_ne.2 e8, cond_false]
def v_tag (tg : List (List AV)) (o : Nat) : Bool := !(asU64 ((tg.getD (o / 1024) []).headD .any) &&& 1#64 <<< min (o / 16 % 64) 64 == 0#64)
def v_cT (n : Nat) (tg : List (List AV)) (off : BitVec 64) : Bool := cond (v_okC n off) (v_tag tg off.toNat) false
def v_cX (n : Nat) (d : List (List AV)) (off : BitVec 64) (k : Nat) : BitVec 64 := cond (v_okC n off) (v_get d (off.toNat + k) 8) 0#64
def mrcCps : ECps MrcS MrcR := fun R z K => match z with
  | .a n tg m d off => cond (g_ram n tg m d) (K (.a (v_cT n tg off) (v_cX n d off 0) (v_cX n d off 8) (v_okC n off) n tg m d)) none
theorem mrcCps_ok : ECok mrcStep mrcCps := by
  intro R z K r h
  cases z with
  | a n tg m d off =>
    obtain ⟨hg, hk⟩ := condK h
    obtain ⟨rfl, h1, h2, h3, h4⟩ := g_ram_iff.1 hg
    refine ⟨_, ?_, hk⟩
    have hin := v_in_iff (off := off) (size := 16#64) h4 (by rw [show (16#64).toNat = 16 from rfl]; omega)
    simp only [mrcStep, v_cT, v_cX, v_okC]
    unfold v_in at hin ⊢
    cases h0 : off.slt 0#64 with
    | true => rfl
    | false =>
      cases h5 : (BitVec.ofNat 64 m - 16#64).slt off with
      | true => rfl
      | false =>
        have hle : off.toNat + 16 ≤ m := hin.1 (by rw [h0, h5]; rfl)
        have ho : off.toNat < 2 ^ 63 := by omega
        obtain ⟨a1, a2⟩ := dq off ho
        have g1 : g_get m off.toNat 8 = true := g_get_iff.2 ⟨by omega, by omega⟩
        have g2 : g_get m (off.toNat + 8) 8 = true := g_get_iff.2 ⟨by omega, by omega⟩
        simp only [a1, a2, g1, g2, nonneg_lt ho, Nat.zero_add, Nat.add_zero,
          decide_eq_true (show m ≤ m from Nat.le_refl _), decide_eq_true (show off.toNat < m by omega), decide_eq_true (show 16 ≤ m - off.toNat by omega),
          nonneg_lt (show ((off.sdiv 16#64).sdiv 64#64).toNat < 2 ^ 63 by omega), nonneg_lt (show ((off.sdiv 16#64).srem 64#64).toNat < 2 ^ 63 by omega),
          decide_eq_true (show off.toNat / 1024 < 64 by omega), Bool.and_true, Bool.true_and, Bool.true_or, cond_true, cond_false, Bool.not_false]
        cases off.srem 16#64 == 0#64 <;> rfl
end Go.Sx

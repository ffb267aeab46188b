/- The interrupt controller: PlicOnce. -/
import Derived.Test.YtaieimjeffedhaaVm12
import Derived.Test.YtaieimjeffedhaaPlPlc5
import Derived.Test.YtaieimjeffedhaaPlPlc7
set_option linter.unusedSimpArgs false
set_option linter.unusedVariables false
set_option linter.unnecessarySimpa false
namespace Go.Sx
open Go
theorem once_tail (q : PSt) (s : BitVec 32) (c : Nat) (off : BitVec 64) (hw : v_plic_which off 4#64 = (5#64, BitVec.ofNat 64 c)) (hc : c < 2) (h0 : 0 < s.toNat) (h32 : s.toNat < 32) (he : (cell32 q.en c).getLsbD s.toNat = true) :
    (BitVec.setWidth 64 (1#32 <<< min (BitVec.setWidth 64 s).toNat 32 &&& ~~~(1#32 ||| (v_stP q off 4#64 (BitVec.setWidth 64 s + 1099511627776#64)).se)) >>> min (BitVec.setWidth 64 s).toNat 64 &&& 1#64 == 1#64) = true := by
  have hlo : BitVec.setWidth 32 (BitVec.setWidth 64 s + 1099511627776#64) = s := by
    apply BitVec.eq_of_toNat_eq
    rw [BitVec.toNat_setWidth, BitVec.toNat_add, zext_nat, show (1099511627776#64).toNat = 1099511627776 from rfl]
    have := s.isLt
    omega
  have hu : s.ult 32#32 = true := by rw [ultN, show (32#32).toNat = 32 from rfl]; exact decide_eq_true h32
  have hcn : (BitVec.ofNat 64 c).toNat = c := ofNat_toNat (by omega)
  have hse : (v_stP q off 4#64 (BitVec.setWidth 64 s + 1099511627776#64)).se = q.se &&& ~~~(1#32 <<< min s.toNat 32 &&& cell32 q.en c) := by
    unfold v_stP
    rw [hw]
    simp only [BitVec.reduceBEq, cond_true, cond_false, hlo, hu, hcn]
  rw [zext_nat, bit_zext _ _ h32, bit_get _ _ h32, hse, Nat.min_eq_left (by omega)]
  simp [he, h32]
  omega
theorem once_zero (s : BitVec 32) (h : (0#32).ult s = false) : (BitVec.setWidth 64 s == 0#64) = true := by
  rw [ult0, decide_eq_false_iff_not] at h
  rw [beq_iff_eq]
  apply BitVec.eq_of_toNat_eq
  rw [zext_nat]
  show s.toNat = 0
  omega
theorem once_head (p : PSt) (h : POk p) (c : Nat) (hs : (0#32).ult (v_best p.pr (4294967295#32 &&& ~~~(1#32 ||| p.se) &&& cell32 p.en c) 0#32 0#32 1#32) = true) :
    let s := v_best p.pr (4294967295#32 &&& ~~~(1#32 ||| p.se) &&& cell32 p.en c) 0#32 0#32 1#32
    (BitVec.setWidth 64 s == 0#64) = false ∧ (31#64).ult (BitVec.setWidth 64 s) = false ∧ 0 < s.toNat ∧ s.toNat < 32 ∧ (cell32 p.en c).getLsbD s.toNat = true ∧
      POk ⟨p.pr, 4294967295#32 &&& ~~~(1#32 ||| p.se) &&& ~~~(1#32 <<< min s.toNat 32), p.se ||| 1#32 <<< min s.toNat 32, p.en, p.th⟩ ∧ (p.se ||| 1#32 <<< min s.toNat 32).getLsbD s.toNat = true := by
  intro s
  have hlt : s.toNat < 32 := best_lt p.pr _
  have h0 : 0 < s.toNat := by have := hs; rw [ult0, decide_eq_true_eq] at this; exact this
  have hb : (4294967295#32 &&& ~~~(1#32 ||| p.se) &&& cell32 p.en c).getLsbD s.toNat = true := by
    rcases best_bit p.pr (4294967295#32 &&& ~~~(1#32 ||| p.se) &&& cell32 p.en c) 32 0#32 0#32 1#32 (.inl rfl) with e | e
    · have : s.toNat = 0 := e
      omega
    · exact e
  have hP := (h.lines 4294967295#32).claim c
  unfold pClaim at hP
  simp only [hs, cond_true] at hP
  refine ⟨?_, ?_, h0, hlt, ?_, hP, ?_⟩
  · rw [beq_eq_false_iff_ne]; intro e
    have := congrArg BitVec.toNat e
    rw [zext_nat] at this
    have z : (0#64).toNat = 0 := rfl
    omega
  · rw [ultN, zext_nat, show (31#64).toNat = 31 from rfl]; exact decide_eq_false (by omega)
  · rw [BitVec.getLsbD_and, Bool.and_eq_true] at hb; exact hb.2
  · rw [Nat.min_eq_left (by omega)]; simp [hlt]
set_option maxHeartbeats 1000000 in
theorem plicOnce_rr (n : Nat) (d : List (List AV)) (second : Bool) (k : Nat) (e : List (List AV)) (hl : d.length = n) (hf : fitsAll [.int .i64, .int .i64, .int .i64, .int .u64, .int .u32] d = true) (hn : n < 2 ^ 63)
    (hl2 : e.length = k) (hf2 : fitsAll [.int .u32] e = true) (hk : k < 2 ^ 63) : t_PlicOnce_rr n d second k e = some (.bool true) := by
  have hg := g_dn_ok (dn_first n d hn)
  have hok : POk (dnP n d) := (v_dn_ok (dn_first n d hn)).1
  unfold t_PlicOnce_rr
  rw [hg]
  generalize dnP n d = p at hok ⊢
  cases (300#64).slt (BitVec.ofNat 64 n) with
  | true => rfl
  | false =>
    cases (100#64).slt (BitVec.ofNat 64 k) with
    | true => rfl
    | false =>
      simp only [cond_true, cond_false]
      have main : ∀ (c : Nat) (hc : c < 2) (ctx off : BitVec 64) (hw : v_plic_which off 4#64 = (5#64, BitVec.ofNat 64 c)) (hs : (0#32).ult (v_best p.pr (4294967295#32 &&& ~~~(1#32 ||| p.se) &&& cell32 p.en c) 0#32 0#32 1#32) = true),
          ∀ s, s = v_best p.pr (4294967295#32 &&& ~~~(1#32 ||| p.se) &&& cell32 p.en c) 0#32 0#32 1#32 →
          ∀ x, x = OcS.a k k e p.pr (4294967295#32 &&& ~~~(1#32 ||| p.se) &&& ~~~(1#32 <<< min s.toNat 32)) (p.se ||| 1#32 <<< min s.toNat 32) p.en p.th ctx (BitVec.setWidth 64 s) 0#64 →
          (BitVec.setWidth 64 s == 0#64) = false ∧ (31#64).ult (BitVec.setWidth 64 s) = false ∧ g_oc x = true ∧ (∀ off v, g_stq (.a (v_oc x).pr (v_oc x).pe (v_oc x).se (v_oc x).en (v_oc x).th off 4#64 v) = true) ∧
          (BitVec.setWidth 64 (1#32 <<< min (BitVec.setWidth 64 s).toNat 32 &&& ~~~(1#32 ||| (v_stP (v_oc x) off 4#64 (BitVec.setWidth 64 s + 1099511627776#64)).se)) >>> min (BitVec.setWidth 64 s).toNat 64 &&& 1#64 == 1#64) = true := by
        intro c hc ctx off hw hs s hse x hx
        obtain ⟨a1, a2, a3, a4, a5, a6, a7⟩ := once_head p hok c hs
        rw [← hse] at a1 a2 a3 a4 a5 a6 a7
        have hx' : ocOk x := by rw [hx]; exact ⟨a6, by rw [zext_nat]; exact a3, by rw [zext_nat]; exact a4, by rw [zext_nat]; exact a7, Nat.le_refl _, hk, by simp⟩
        have hq := v_oc_ok hx'
        have hq1 : POk (v_oc x) := by subst hx; exact hq.1
        have hq2 : (v_oc x).en = p.en := by subst hx; exact hq.2.2.1
        exact ⟨a1, a2, g_oc_ok hx', fun off v => g_stq_ok hq1 off 4#64 v, once_tail (v_oc x) s c off hw hc a3 a4 (by rw [hq2]; exact a5)⟩
      cases second with
      | true =>
        simp only [cond_true]
        cases hs : (0#32).ult (v_best p.pr (4294967295#32 &&& ~~~(1#32 ||| p.se) &&& asU32 ((p.en.getD 1 []).headD AV.any)) 0#32 0#32 1#32) with
        | false => simp only [once_zero _ hs, cond_true, cond_false]
        | true =>
          obtain ⟨b1, b2, b3, b4, b5⟩ := main 1 (by decide) 1#64 2101252#64 (by decide) hs _ rfl _ rfl
          unfold cell32 at b1 b2 b3 b4 b5
          simp only [b1, b2, b3, b4, b5, cond_true, cond_false]
      | false =>
        simp only [cond_false]
        cases hs : (0#32).ult (v_best p.pr (4294967295#32 &&& ~~~(1#32 ||| p.se) &&& asU32 ((p.en.getD 0 []).headD AV.any)) 0#32 0#32 1#32) with
        | false => simp only [once_zero _ hs, cond_true, cond_false]
        | true =>
          obtain ⟨b1, b2, b3, b4, b5⟩ := main 0 (by decide) 0#64 2097156#64 (by decide) hs _ rfl _ rfl
          unfold cell32 at b1 b2 b3 b4 b5
          simp only [b1, b2, b3, b4, b5, cond_true, cond_false]
set_option maxHeartbeats 1000000 in
theorem plicOnce_rn (n : Nat) (d : List (List AV)) (second : Bool) (hl : d.length = n) (hf : fitsAll [.int .i64, .int .i64, .int .i64, .int .u64, .int .u32] d = true) (hn : n < 2 ^ 63) : t_PlicOnce_rn n d second = some (.bool true) := by
  have hg := g_dn_ok (dn_first n d hn)
  have hok : POk (dnP n d) := (v_dn_ok (dn_first n d hn)).1
  unfold t_PlicOnce_rn
  rw [hg]
  generalize dnP n d = p at hok ⊢
  cases (300#64).slt (BitVec.ofNat 64 n) with
  | true => rfl
  | false =>
    simp only [cond_true, cond_false]
    have main : ∀ (c : Nat) (hc : c < 2) (off : BitVec 64) (hw : v_plic_which off 4#64 = (5#64, BitVec.ofNat 64 c)) (hs : (0#32).ult (v_best p.pr (4294967295#32 &&& ~~~(1#32 ||| p.se) &&& cell32 p.en c) 0#32 0#32 1#32) = true),
        ∀ s, s = v_best p.pr (4294967295#32 &&& ~~~(1#32 ||| p.se) &&& cell32 p.en c) 0#32 0#32 1#32 →
        ∀ x, x = PSt.mk p.pr (4294967295#32 &&& ~~~(1#32 ||| p.se) &&& ~~~(1#32 <<< min s.toNat 32)) (p.se ||| 1#32 <<< min s.toNat 32) p.en p.th →
        (BitVec.setWidth 64 s == 0#64) = false ∧ (31#64).ult (BitVec.setWidth 64 s) = false ∧ (∀ off v, g_stq (.a x.pr x.pe x.se x.en x.th off 4#64 v) = true) ∧
        (BitVec.setWidth 64 (1#32 <<< min (BitVec.setWidth 64 s).toNat 32 &&& ~~~(1#32 ||| (v_stP x off 4#64 (BitVec.setWidth 64 s + 1099511627776#64)).se)) >>> min (BitVec.setWidth 64 s).toNat 64 &&& 1#64 == 1#64) = true := by
      intro c hc off hw hs s hse x hx
      obtain ⟨a1, a2, a3, a4, a5, a6, a7⟩ := once_head p hok c hs
      rw [← hse] at a1 a2 a3 a4 a5 a6 a7
      exact ⟨a1, a2, fun off v => g_stq_ok (hx ▸ a6) off 4#64 v, once_tail x s c off hw hc a3 a4 (by rw [hx]; exact a5)⟩
    cases second with
    | true =>
      simp only [cond_true]
      cases hs : (0#32).ult (v_best p.pr (4294967295#32 &&& ~~~(1#32 ||| p.se) &&& asU32 ((p.en.getD 1 []).headD AV.any)) 0#32 0#32 1#32) with
      | false => simp only [once_zero _ hs, cond_true, cond_false]
      | true =>
        obtain ⟨b1, b2, b4, b5⟩ := main 1 (by decide) 2101252#64 (by decide) hs _ rfl _ rfl
        unfold cell32 at b1 b2 b4 b5
        simp only [b1, b2, b4, b5, cond_true, cond_false]
    | false =>
      simp only [cond_false]
      cases hs : (0#32).ult (v_best p.pr (4294967295#32 &&& ~~~(1#32 ||| p.se) &&& asU32 ((p.en.getD 0 []).headD AV.any)) 0#32 0#32 1#32) with
      | false => simp only [once_zero _ hs, cond_true, cond_false]
      | true =>
        obtain ⟨b1, b2, b4, b5⟩ := main 0 (by decide) 2097156#64 (by decide) hs _ rfl _ rfl
        unfold cell32 at b1 b2 b4 b5
        simp only [b1, b2, b4, b5, cond_true, cond_false]
theorem plicOnce_nr (second : Bool) (k : Nat) (e : List (List AV)) (hl2 : e.length = k) (hf2 : fitsAll [.int .u32] e = true) (hk : k < 2 ^ 63) : t_PlicOnce_nr second k e = some (.bool true) := by
  unfold t_PlicOnce_nr; cases (100#64).slt (BitVec.ofNat 64 k) <;> cases second <;> rfl
theorem plicOnce_nn (second : Bool) : t_PlicOnce_nn second = some (.bool true) := by
  unfold t_PlicOnce_nn; cases second <;> rfl
end Go.Sx

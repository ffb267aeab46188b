/- The interrupt controller: what its registers are; what holds of it behind any calls. -/
import Derived.Test.YtaieimjeffedhaaPlPlc
import Derived.Test.YtaieimjeffedhaaVa12
set_option linter.unusedSimpArgs false
set_option linter.unusedVariables false
set_option linter.unnecessarySimpa false
namespace Go.Sx
open Go
def zr32 : List (List AV) := [[.int .u32 0#32], [.int .u32 0#32], [.int .u32 0#32], [.int .u32 0#32], [.int .u32 0#32], [.int .u32 0#32], [.int .u32 0#32], [.int .u32 0#32], [.int .u32 0#32], [.int .u32 0#32], [.int .u32 0#32], [.int .u32 0#32], [.int .u32 0#32], [.int .u32 0#32], [.int .u32 0#32], [.int .u32 0#32], [.int .u32 0#32], [.int .u32 0#32], [.int .u32 0#32], [.int .u32 0#32], [.int .u32 0#32], [.int .u32 0#32], [.int .u32 0#32], [.int .u32 0#32], [.int .u32 0#32], [.int .u32 0#32], [.int .u32 0#32], [.int .u32 0#32], [.int .u32 0#32], [.int .u32 0#32], [.int .u32 0#32], [.int .u32 0#32]]
def zr2 : List (List AV) := [[.int .u32 0#32], [.int .u32 0#32]]
/-- What stands at an offset. -/
inductive Reg (off size : BitVec 64) (w : BitVec 64 × BitVec 64) : Prop where
  | none : w = (0#64, 0#64) → Reg off size w
  | prio : w.1 = 1#64 → w.2.toNat < 32 → size = 4#64 → off.toNat = 4 * w.2.toNat → Reg off size w
  | pend : w = (2#64, 0#64) → size = 4#64 → off = 4096#64 → Reg off size w
  | en0 : w = (3#64, 0#64) → size = 4#64 → off = 8192#64 → Reg off size w
  | en1 : w = (3#64, 1#64) → size = 4#64 → off = 8320#64 → Reg off size w
  | th0 : w = (4#64, 0#64) → size = 4#64 → off = 2097152#64 → Reg off size w
  | th1 : w = (4#64, 1#64) → size = 4#64 → off = 2101248#64 → Reg off size w
  | cl0 : w = (5#64, 0#64) → size = 4#64 → off = 2097156#64 → Reg off size w
  | cl1 : w = (5#64, 1#64) → size = 4#64 → off = 2101252#64 → Reg off size w
theorem which_hi (off size : BitVec 64) (hs : size = 4#64) : Reg off size (cond (off == 4096#64) (2#64, 0#64) (cond (off == 8192#64) (3#64, 0#64) (cond (off == 2097152#64) (4#64, 0#64) (cond (off == 2097156#64) (5#64, 0#64) (cond (off == 8320#64) (3#64, 1#64) (cond (off == 2101248#64) (4#64, 1#64) (cond (off == 2101252#64) (5#64, 1#64) (0#64, 0#64)))))))) := by
  cases h1 : off == 4096#64 with
  | true => exact .pend rfl hs (by simpa using h1)
  | false =>
  cases h2 : off == 8192#64 with
  | true => exact .en0 rfl hs (by simpa using h2)
  | false =>
  cases h3 : off == 2097152#64 with
  | true => exact .th0 rfl hs (by simpa using h3)
  | false =>
  cases h4 : off == 2097156#64 with
  | true => exact .cl0 rfl hs (by simpa using h4)
  | false =>
  cases h5 : off == 8320#64 with
  | true => exact .en1 rfl hs (by simpa using h5)
  | false =>
  cases h6 : off == 2101248#64 with
  | true => exact .th1 rfl hs (by simpa using h6)
  | false =>
  cases h7 : off == 2101252#64 with
  | true => exact .cl1 rfl hs (by simpa using h7)
  | false => exact .none rfl
theorem which_eq (off size : BitVec 64) : v_plic_which off size = cond (!size == 4#64) (0#64, 0#64) (cond (off.slt 0#64) (0#64, 0#64) (cond (off.slt 128#64 && off.srem 4#64 == 0#64) (1#64, off.sdiv 4#64)
    (cond (off == 4096#64) (2#64, 0#64) (cond (off == 8192#64) (3#64, 0#64) (cond (off == 2097152#64) (4#64, 0#64) (cond (off == 2097156#64) (5#64, 0#64) (cond (off == 8320#64) (3#64, 1#64) (cond (off == 2101248#64) (4#64, 1#64) (cond (off == 2101252#64) (5#64, 1#64) (0#64, 0#64)))))))))) := by
  unfold v_plic_which
  cases (!size == 4#64) <;> cases off.slt 0#64 <;> cases off.slt 128#64 <;> cases (off.srem 4#64 == 0#64) <;> rfl
theorem which_reg (off size : BitVec 64) : Reg off size (v_plic_which off size) := by
  rw [which_eq]
  cases hs : (!size == 4#64) with
  | true => exact .none rfl
  | false =>
    have hs' : size = 4#64 := by simpa using hs
    cases h0 : off.slt 0#64 with
    | true => exact .none rfl
    | false =>
      simp only [cond_false]
      have hlt : off.toNat < 2 ^ 63 := by
        rw [sltR off 0#64 (by decide)] at h0
        simp at h0; omega
      cases h1 : (off.slt 128#64 && off.srem 4#64 == 0#64) with
      | false => exact which_hi off size hs'
      | true =>
        simp only [Bool.and_eq_true, beq_iff_eq] at h1
        obtain ⟨h2, h3⟩ := h1
        rw [slt_nat hlt (by decide), decide_eq_true_eq, show (128#64).toNat = 128 from rfl] at h2
        rw [sremN off 4#64 (by decide) hlt] at h3
        have hd : off.sdiv 4#64 = off / 4#64 := sdivN off 4#64 (by decide) hlt
        have h4 : off.toNat % 4 = 0 := by have := congrArg BitVec.toNat h3; simpa using this
        have h5 : (off / 4#64).toNat = off.toNat / 4 := by rw [BitVec.toNat_udiv]; rfl
        refine .prio rfl ?_ hs' ?_
        · simp only [cond_true]; rw [hd, h5]; omega
        · simp only [cond_true]; rw [hd, h5]; omega
/-- A register that is a source's priority. -/
theorem which_prio (s : BitVec 64) (h : s.toNat < 32) : v_plic_which (4#64 * s) 4#64 = (1#64, s) := by
  have hm : (4#64 * s).toNat = 4 * s.toNat := by
    rw [BitVec.toNat_mul, show (4#64).toNat = 4 from rfl]; exact Nat.mod_eq_of_lt (by omega)
  have hlt : (4#64 * s).toNat < 2 ^ 63 := by omega
  rw [which_eq]
  have h0 : (4#64 * s).slt 0#64 = false := by rw [slt_nat hlt (by decide)]; exact decide_eq_false (by simp)
  have h1 : (4#64 * s).slt 128#64 = true := by rw [slt_nat hlt (by decide), hm]; exact decide_eq_true (by rw [show (128#64).toNat = 128 from rfl]; omega)
  have h2 : (4#64 * s).srem 4#64 = 0#64 := by
    rw [sremN _ _ (by decide) hlt]
    apply BitVec.eq_of_toNat_eq
    rw [BitVec.toNat_umod, hm, show (4#64).toNat = 4 from rfl]
    simp
  have h3 : (4#64 * s).sdiv 4#64 = s := by
    rw [sdivN _ _ (by decide) hlt]
    apply BitVec.eq_of_toNat_eq
    rw [BitVec.toNat_udiv, hm, show (4#64).toNat = 4 from rfl]
    omega
  rw [h0, h1, h2, h3]; rfl
/-- A controller's parts. -/
structure PSt where
  pr : List (List AV)
  pe : BitVec 32
  se : BitVec 32
  en : List (List AV)
  th : List (List AV)
def cell32 (l : List (List AV)) (k : Nat) : BitVec 32 := asU32 ((l.getD k []).headD .any)
/-- What holds of a controller at all times. -/
structure POk (p : PSt) : Prop where
  lpr : p.pr.length = 32
  len : p.en.length = 2
  lth : p.th.length = 2
  pr0 : cell32 p.pr 0 = 0#32
  pr7 : ∀ k, (cell32 p.pr k).toNat < 8
  en1 : ∀ k, (cell32 p.en k)[0] = false
  th7 : ∀ k, (cell32 p.th k).toNat < 8
  pe0 : p.pe[0] = false
  se0 : p.se[0] = false
  dis : p.pe &&& p.se = 0#32
theorem cell32_set (l : List (List AV)) (i k : Nat) (v : BitVec 32) (h : i < l.length) : cell32 (l.set i [.int .u32 v]) k = if k = i then v else cell32 l k := by
  unfold cell32
  rw [getD_set l i k _ h]
  split <;> rfl
theorem bestGo_lt (pr : List (List AV)) (of : BitVec 32) : ∀ (k : Nat) (ab be s : BitVec 32), be.toNat < 32 → (bestGo pr of k ab be s).1.toNat < 32
  | 0, ab, be, s, h => h
  | k + 1, ab, be, s, h => by
    unfold bestGo
    cases hs : s.ult 32#32 with
    | false => exact h
    | true =>
      simp only [cond_true]
      have : s.toNat < 32 := by rw [ultN, decide_eq_true_eq] at hs; exact hs
      cases bestC pr of ab s with
      | true => exact bestGo_lt pr of k _ _ _ this
      | false => exact bestGo_lt pr of k _ _ _ h
theorem best_lt (pr : List (List AV)) (of : BitVec 32) : (v_best pr of 0#32 0#32 1#32).toNat < 32 := bestGo_lt pr of 32 _ _ _ (by decide)
/-- Behind a claim. -/
def pClaim (p : PSt) (k : Nat) : PSt :=
  let s := v_best p.pr (p.pe &&& cell32 p.en k) 0#32 0#32 1#32
  cond ((0#32).ult s) { p with pe := p.pe &&& ~~~(1#32 <<< min s.toNat 32), se := p.se ||| 1#32 <<< min s.toNat 32 } p
theorem ult0 (s : BitVec 32) : (0#32).ult s = decide (0 < s.toNat) := rfl
theorem POk.claim {p : PSt} (h : POk p) (k : Nat) : POk (pClaim p k) := by
  unfold pClaim
  dsimp only
  have hlt := best_lt p.pr (p.pe &&& cell32 p.en k)
  generalize v_best p.pr (p.pe &&& cell32 p.en k) 0#32 0#32 1#32 = s at *
  cases hs : (0#32).ult s with
  | false => exact h
  | true =>
    rw [ult0, decide_eq_true_eq] at hs
    rw [Nat.min_eq_left (by omega)]
    refine { lpr := h.lpr, len := h.len, lth := h.lth, pr0 := h.pr0, pr7 := h.pr7, en1 := h.en1, th7 := h.th7, pe0 := ?_, se0 := ?_, dis := ?_ }
    · have := h.pe0; simp [this]
    · have := h.se0; simp [this]; omega
    · apply BitVec.eq_of_getLsbD_eq
      intro i hi
      have hd := congrArg (fun v => BitVec.getLsbD v i) h.dis
      simp at hd ⊢
      intro a b
      have := hd a
      simp_all
      omega
theorem POk.lines {p : PSt} (h : POk p) (m : BitVec 32) : POk { p with pe := m &&& ~~~(1#32 ||| p.se) } := by
  refine { lpr := h.lpr, len := h.len, lth := h.lth, pr0 := h.pr0, pr7 := h.pr7, en1 := h.en1, th7 := h.th7, pe0 := ?_, se0 := h.se0, dis := ?_ }
  · simp
  · apply BitVec.eq_of_getLsbD_eq
    intro i hi
    simp
    try (intro a b c; simp_all)
theorem POk.prio {p : PSt} (h : POk p) (n : Nat) (hn : n < 32) (h0 : 0 < n) (v : BitVec 32) (hv : v.toNat < 8) : POk { p with pr := p.pr.set n [.int .u32 v] } := by
  refine { lpr := by simpa using h.lpr, len := h.len, lth := h.lth, pr0 := ?_, pr7 := fun k => ?_, en1 := h.en1, th7 := h.th7, pe0 := h.pe0, se0 := h.se0, dis := h.dis }
  · show cell32 (p.pr.set n _) 0 = _
    rw [cell32_set _ _ _ _ (by rw [h.lpr]; exact hn), if_neg (by omega)]; exact h.pr0
  · show (cell32 (p.pr.set n _) k).toNat < 8
    rw [cell32_set _ _ _ _ (by rw [h.lpr]; exact hn)]
    split
    · exact hv
    · exact h.pr7 k
theorem POk.enable {p : PSt} (h : POk p) (n : Nat) (hn : n < 2) (v : BitVec 32) (hv : v[0] = false) : POk { p with en := p.en.set n [.int .u32 v] } := by
  refine { lpr := h.lpr, len := by simpa using h.len, lth := h.lth, pr0 := h.pr0, pr7 := h.pr7, en1 := fun k => ?_, th7 := h.th7, pe0 := h.pe0, se0 := h.se0, dis := h.dis }
  show (cell32 (p.en.set n _) k)[0] = false
  have e := cell32_set p.en n k v (by rw [h.len]; exact hn)
  split at e
  · rw [e]; exact hv
  · rw [e]; exact h.en1 k
theorem POk.thresh {p : PSt} (h : POk p) (n : Nat) (hn : n < 2) (v : BitVec 32) (hv : v.toNat < 8) : POk { p with th := p.th.set n [.int .u32 v] } := by
  refine { lpr := h.lpr, len := h.len, lth := by simpa using h.lth, pr0 := h.pr0, pr7 := h.pr7, en1 := h.en1, th7 := fun k => ?_, pe0 := h.pe0, se0 := h.se0, dis := h.dis }
  show (cell32 (p.th.set n _) k).toNat < 8
  rw [cell32_set _ _ _ _ (by rw [h.lth]; exact hn)]
  split
  · exact hv
  · exact h.th7 k
theorem POk.done {p : PSt} (h : POk p) (v : BitVec 32) : POk { p with se := p.se &&& ~~~v } := by
  refine { lpr := h.lpr, len := h.len, lth := h.lth, pr0 := h.pr0, pr7 := h.pr7, en1 := h.en1, th7 := h.th7, pe0 := h.pe0, se0 := ?_, dis := ?_ }
  · have := h.se0; simp [this]
  · apply BitVec.eq_of_getLsbD_eq
    intro i hi
    have hd := congrArg (fun v => BitVec.getLsbD v i) h.dis
    simp at hd ⊢
    intro a b
    have := hd a
    simp_all
end Go.Sx

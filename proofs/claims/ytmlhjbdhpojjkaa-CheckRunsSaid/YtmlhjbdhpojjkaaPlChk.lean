/- Plain laws of what permits: accesses, fetches, jumps, stores of capabilities. -/
import Derived.Test.YtmlhjbdhpojjkaaPlCapB
import Derived.Test.YtmlhjbdhpojjkaaVa23
set_option linter.unusedSimpArgs false
set_option linter.unusedVariables false
set_option linter.unnecessarySimpa false
namespace Go.Sx
open Go

theorem g_outside_ok {c : Cp} (h : c.e.toNat ≤ 52) (a n : BitVec 64) : g_check_outside c a n = true := by
  unfold g_check_outside; rw [g_Of_ok h]; rfl
theorem g_data_ok {c : Cp} (h : c.e.toNat ≤ 52) (by' a n : BitVec 64) (l s : Bool) : g_check_Data c by' a n l s = true := by
  unfold g_check_Data
  simp only [g_outside_ok h, cond_true, Bool.cond_self]
theorem g_fetch_ok {c : Cp} (h : c.e.toNat ≤ 52) (n : BitVec 64) : g_check_Fetch c n = true := by
  unfold g_check_Fetch
  simp only [g_outside_ok h, cond_true, Bool.cond_self]
theorem g_jump_ok {c : Cp} (h : c.e.toNat ≤ 52) (by' n : BitVec 64) : g_check_Jump c by' n = true := by
  unfold g_check_Jump
  simp only [g_outside_ok h, cond_true, Bool.cond_self]

/-- Is an access permitted? -/
def okData (c : Cp) (a n : BitVec 64) (l s : Bool) : Bool :=
  cond c.tag (cond (c.ty == 262143#64) (cond l (cond (c.per &&& 4#64 == 0#64) false (cond s (cond (c.per &&& 8#64 == 0#64) false (v_bounds_In (v_bounds_Of c) a n)) (v_bounds_In (v_bounds_Of c) a n)))
    (cond s (cond (c.per &&& 8#64 == 0#64) false (v_bounds_In (v_bounds_Of c) a n)) (v_bounds_In (v_bounds_Of c) a n))) false) false
theorem data_val (c : Cp) (by' a n : BitVec 64) (l s : Bool) : ∃ v, v_check_Data c by' a n l s = cond (okData c a n l s) ⟨false, 0#64, 0#64⟩ ⟨true, 28#64, v⟩ := by
  unfold v_check_Data okData v_check_outside v_check_Refused
  simp only
  generalize v_bounds_In (v_bounds_Of c) a n = i
  generalize (c.per &&& 4#64 == 0#64) = p4
  generalize (c.per &&& 8#64 == 0#64) = p8
  generalize (c.ty == 262143#64) = y
  generalize c.tag = t
  cases t <;> cases y <;> cases l <;> cases s <;> cases p4 <;> cases p8 <;> cases i <;> first | exact ⟨_, rfl⟩ | exact ⟨0#64, rfl⟩
/-- May it be executed? -/
def okFetch (c : Cp) (n : BitVec 64) : Bool :=
  cond c.tag (cond (c.ty == 262143#64) (cond (c.per &&& 2#64 == 0#64) false (v_bounds_In (v_bounds_Of c) c.ad n)) false) false
theorem fetch_val (c : Cp) (n : BitVec 64) : ∃ v, v_check_Fetch c n = cond (okFetch c n) ⟨false, 0#64, 0#64⟩ ⟨true, 28#64, v⟩ := by
  unfold v_check_Fetch okFetch v_check_outside v_check_lacks v_check_Refused
  simp only
  generalize v_bounds_In (v_bounds_Of c) c.ad n = i
  generalize (c.per &&& 2#64 == 0#64) = p2
  generalize (c.ty == 262143#64) = y
  generalize c.tag = t
  cases t <;> cases y <;> cases p2 <;> cases i <;> first | exact ⟨_, rfl⟩ | exact ⟨0#64, rfl⟩

theorem permits (c : Cp) (xby xat n : BitVec 64) (load store : Bool) : t_l23_CheckPermits c xby xat n load store = some (.bool true) := by
  have hr := right_e c
  unfold t_l23_CheckPermits
  generalize v_l05_Right c = r at *
  obtain ⟨v1, h1⟩ := data_val r xby xat n load store
  obtain ⟨v2, h2⟩ := fetch_val r n
  simp only [g_Of_ok hr, g_data_ok hr, g_fetch_ok hr, cond_true, h1, h2, okData, okFetch]
  generalize v_bounds_In (v_bounds_Of r) xat n = i
  generalize v_bounds_In (v_bounds_Of r) r.ad n = j
  generalize (r.per &&& 2#64 == 0#64) = p2
  generalize (r.per &&& 4#64 == 0#64) = p4
  generalize (r.per &&& 8#64 == 0#64) = p8
  generalize (r.ty == 262143#64) = y
  generalize r.tag = t
  cases t <;> cases y
  · cases load <;> cases store <;> rfl
  · cases load <;> cases store <;> cases p4 <;> cases p8 <;> cases p2 <;> cases i <;> cases j <;> rfl
  · cases load <;> cases store <;> cases p4 <;> cases p8 <;> cases p2 <;> cases i <;> cases j <;> rfl
  · cases load <;> cases store <;> cases p4 <;> cases p8 <;> cases p2 <;> cases i <;> cases j <;> rfl

theorem stores (c v : Cp) (xby : BitVec 64) : t_l23_CheckStores c v xby = some (.bool true) := by
  unfold t_l23_CheckStores v_check_Keep v_check_lacks v_check_Refused
  simp only
  generalize ((v_l05_Right v).per &&& 1#64 == 0#64) = a
  generalize ((v_l05_Right c).per &&& 32#64 == 0#64) = b
  generalize ((v_l05_Right c).per &&& 64#64 == 0#64) = d
  generalize (v_l05_Right v).tag = t
  cases t <;> cases a <;> cases b <;> cases d <;> simp
/-- May it be jumped to? -/
def okJump (c : Cp) (off : BitVec 64) : Bool :=
  cond c.tag (cond (c.ty == 262143#64) (cond (c.per &&& 2#64 == 0#64) false (v_bounds_In (v_bounds_Of c) (c.ad + off &&& 18446744073709551614#64) 2#64))
    (cond (c.ty == 262142#64) (cond (off == 0#64) (cond (c.per &&& 2#64 == 0#64) false (v_bounds_In (v_bounds_Of c) (c.ad + off &&& 18446744073709551614#64) 2#64)) false) false)) false
theorem jump_val (c : Cp) (by' off : BitVec 64) : ∃ v, v_check_Jump c by' off = cond (okJump c off) ⟨false, 0#64, 0#64⟩ ⟨true, 28#64, v⟩ := by
  unfold v_check_Jump okJump v_check_outside v_check_lacks v_check_Refused
  simp only [BitVec.signExtend_eq]
  generalize v_bounds_In (v_bounds_Of c) (c.ad + off &&& 18446744073709551614#64) 2#64 = i
  generalize (c.per &&& 2#64 == 0#64) = p2
  generalize (c.ty == 262143#64) = y
  generalize (c.ty == 262142#64) = z
  generalize (off == 0#64) = o
  generalize c.tag = t
  cases t <;> cases y <;> cases z <;> cases o <;> cases p2 <;> cases i <;> first | exact ⟨_, rfl⟩ | exact ⟨0#64, rfl⟩
theorem fetch_is (c : Cp) (n : BitVec 64) : (v_check_Fetch c n).is = !okFetch c n := by
  obtain ⟨v, h⟩ := fetch_val c n
  rw [h]; cases okFetch c n <;> rfl
theorem jump_is (c : Cp) (b n : BitVec 64) : (v_check_Jump c b n).is = !okJump c n := by
  obtain ⟨v, h⟩ := jump_val c b n
  rw [h]; cases okJump c n <;> rfl
theorem data_is (c : Cp) (by' a n : BitVec 64) (l s : Bool) : (v_check_Data c by' a n l s).is = !okData c a n l s := by
  obtain ⟨v, h⟩ := data_val c by' a n l s
  rw [h]; cases okData c a n l s <;> rfl
/-- What permits runs of a sentry, and of what it was made of. -/
theorem sentry_jump (r : Cp) (hs : canSentry r = true) : okJump { r with ty := 262142#64 } 0#64 = okJump r 0#64 := by
  cases r with | mk tag per ty mo e b t big ad =>
  unfold canSentry at hs
  unfold okJump
  simp only at hs ⊢
  cases tag <;> simp at hs ⊢
  simp [hs]
  rfl
theorem sentry_off (r : Cp) (xby : BitVec 64) (hs : canSentry r = true) : v_check_Jump { r with ty := 262142#64 } xby 4#64 = v_check_Refused xby 3#64 := by
  cases r with | mk tag per ty mo e b t big ad =>
  have ht : tag = true := by
    unfold canSentry at hs
    simp only at hs
    cases tag with
    | true => rfl
    | false => simp at hs
  subst ht
  unfold v_check_Jump
  have h1 : (262142#64 == 262143#64) = false := by decide
  have h2 : (262142#64 == 262142#64) = true := by decide
  have h3 : (4#64 == 0#64) = false := by decide
  simp only [h1, h2, h3]
  rfl
theorem jump_fetch (r d : Cp) (ht : d.tag = r.tag) (hp : d.per = r.per) (ha : d.ad = r.ad &&& 18446744073709551614#64) (hy : (d.ty == 262143#64) = (r.ty == 262143#64 || r.ty == 262142#64)) (ho : v_bounds_Of d = v_bounds_Of r) : okFetch d 2#64 = okJump r 0#64 := by
  have h0 : (0#64 == 0#64) = true := by decide
  have hz : r.ad + 0#64 = r.ad := BitVec.add_zero _
  simp only [okFetch, okJump, ht, hp, ha, ho, hy, hz, h0]
  generalize v_bounds_In (v_bounds_Of r) (r.ad &&& 18446744073709551614#64) 2#64 = i
  generalize (r.ty == 262143#64) = a
  generalize (r.ty == 262142#64) = b
  generalize (r.per &&& 2#64 == 0#64) = e
  generalize r.tag = t
  cases t <;> cases a <;> cases b <;> rfl
theorem jumps (c : Cp) (xby : BitVec 64) : t_l23_CheckJumps c xby = some (.bool true) := by
  have hr := right_e c
  unfold t_l23_CheckJumps
  generalize v_l05_Right c = r at *
  have tail : (cond ((v_capops_Sentry r).tag)
     (cond (g_check_Jump (v_capops_Sentry r) xby 0#64)
      (cond (g_check_Jump r xby 0#64)
       (cond (!(v_check_Jump (v_capops_Sentry r) xby 0#64).is == (v_check_Jump r xby 0#64).is)
        (some (AV.bool (false)))
        (cond (g_check_Jump (v_capops_Sentry r) xby 4#64)
         (cond (!((v_check_Jump (v_capops_Sentry r) xby 4#64).is == (v_check_Refused xby 3#64).is && ((v_check_Jump (v_capops_Sentry r) xby 4#64).cause == (v_check_Refused xby 3#64).cause && ((v_check_Jump (v_capops_Sentry r) xby 4#64).val == (v_check_Refused xby 3#64).val && true))))
          (some (AV.bool (false)))
          (some (AV.bool (true))))
         none))
       none)
      none)
     (some (AV.bool (true)))) = some (.bool true) := by
    rw [sentry_val]
    cases hs : canSentry r with
    | false => rfl
    | true =>
      simp only [cond_true]
      have hr' : ({ r with ty := 262142#64 } : Cp).e.toNat ≤ 52 := hr
      simp only [g_jump_ok hr', g_jump_ok hr, sentry_off r xby hs, jump_is, sentry_jump r hs, cond_true]
      simp
  have gd : ∀ ty, g_bounds_Of { tag := r.tag, per := r.per, ty := ty, mo := r.mo, e := r.e, b := r.b, t := r.t, big := r.big, ad := r.ad &&& 18446744073709551614#64 } = true := fun ty => g_Of_ok (c := { tag := r.tag, per := r.per, ty := ty, mo := r.mo, e := r.e, b := r.b, t := r.t, big := r.big, ad := r.ad &&& 18446744073709551614#64 }) hr
  have gf : ∀ ty, g_check_Fetch { tag := r.tag, per := r.per, ty := ty, mo := r.mo, e := r.e, b := r.b, t := r.t, big := r.big, ad := r.ad &&& 18446744073709551614#64 } 2#64 = true := fun ty => g_fetch_ok (c := { tag := r.tag, per := r.per, ty := ty, mo := r.mo, e := r.e, b := r.b, t := r.t, big := r.big, ad := r.ad &&& 18446744073709551614#64 }) hr 2#64
  simp only [g_jump_ok hr, cond_true] at tail
  simp only [g_Of_ok hr, g_jump_ok hr, gd, gf, cond_true, tail]
  have fin : ∀ d : Cp, d.e = r.e → d.tag = r.tag → d.per = r.per → d.ad = r.ad &&& 18446744073709551614#64 → ((d.ty == 262143#64) = (r.ty == 262143#64 || r.ty == 262142#64)) →
      cond ((v_bounds_Of d).base == (v_bounds_Of r).base && ((v_bounds_Of d).top == (v_bounds_Of r).top && ((v_bounds_Of d).over == (v_bounds_Of r).over && true)))
        (cond (!(v_check_Jump r xby 0#64).is == (v_check_Fetch d 2#64).is) (some (AV.bool false)) (some (AV.bool true))) (some (AV.bool true)) = some (AV.bool true) := by
    intro d he ht hp ha hy
    cases hc : ((v_bounds_Of d).base == (v_bounds_Of r).base && ((v_bounds_Of d).top == (v_bounds_Of r).top && ((v_bounds_Of d).over == (v_bounds_Of r).over && true))) with
    | false => rfl
    | true =>
      simp only [jump_is, fetch_is, jump_fetch r d ht hp ha hy (rg_eq hc)]
      simp
  cases hz : (r.ty == 262142#64) with
  | true =>
    rw [cond_true]
    have h0 : (262143#64 == 262143#64) = true := by decide
    exact fin _ rfl rfl rfl rfl (h0.trans (by rw [hz, Bool.or_true]))
  | false =>
    rw [cond_false]
    exact fin _ rfl rfl rfl rfl (by rw [hz, Bool.or_false])
theorem chknown : t_l23_CheckKnown = some (.bool true) := rfl
end Go.Sx

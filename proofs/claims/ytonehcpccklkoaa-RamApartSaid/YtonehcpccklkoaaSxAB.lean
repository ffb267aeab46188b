/- Calls in memory of other names: what holds of the names from nought on holds of any names. -/
import Derived.Test.YtonehcpccklkoaaSxR
set_option linter.unusedSimpArgs false
set_option linter.unusedVariables false
set_option linter.unnecessarySimpa false
namespace Go.Sx
open Go

mutual
theorem VR_renM {ρ ρ' : Env} {f : Nat → Nat} (h : ∀ n l, ρ n = some l → ρ' (f n) = some l) : ∀ (v : AV) (x : Value), VR ρ v x → VR ρ' (v.ren f) x
  | .any, _, _ => by simp [AV.ren, VR]
  | .bool _, _, hv => by simpa [AV.ren, VR] using hv
  | .int _ _, _, hv => by simpa [AV.ren, VR] using hv
  | .ptr p, _, hv => by
    simp only [AV.ren, VR] at hv ⊢
    obtain ⟨l, hl, hx⟩ := hv
    exact ⟨l, h _ _ hl, hx⟩
  | .nilptr, _, hv => by simpa [AV.ren, VR] using hv
  | .slice p es n, _, hv => by
    simp only [AV.ren, VR] at hv ⊢
    obtain ⟨l, cap, hl, r⟩ := hv
    exact ⟨l, cap, h _ _ hl, r⟩
  | .nilslice, _, hv => by simpa [AV.ren, VR] using hv
  | .func _ a c, _, hv => by
    simp only [AV.ren, VR] at hv ⊢
    obtain ⟨a', c', hx, ha, hc⟩ := hv
    exact ⟨a', c', hx, VRs_renM h a _ ha, VRs_renM h c _ hc⟩
  | .nilfunc, _, hv => by simpa [AV.ren, VR] using hv
  | .iface _ v, _, hv => by
    simp only [AV.ren, VR] at hv ⊢
    obtain ⟨y, hx, hy⟩ := hv
    exact ⟨y, hx, VR_renM h v y hy⟩
  | .nilface, _, hv => by simpa [AV.ren, VR] using hv
  | .agg l, _, hv => by
    simp only [AV.ren, VR] at hv ⊢
    obtain ⟨a, hx, ha⟩ := hv
    exact ⟨a, hx, VRs_renM h l _ ha⟩
  | .tup l, _, hv => by
    simp only [AV.ren, VR] at hv ⊢
    obtain ⟨a, hx, ha⟩ := hv
    exact ⟨a, hx, VRs_renM h l _ ha⟩
  | .lit _, _, hv => by simpa [AV.ren, VR] using hv
theorem VRs_renM {ρ ρ' : Env} {f : Nat → Nat} (h : ∀ n l, ρ n = some l → ρ' (f n) = some l) : ∀ (l : List AV) (ys : List Value), VRs ρ l ys → VRs ρ' (AV.renL f l) ys
  | [], _, hl => by simpa [AV.renL] using hl
  | v :: l, _, hl => by
    obtain ⟨y, r, rfl, hv, hr⟩ := VRs_cons.1 hl
    simp only [AV.renL]
    exact VRs_cons' (VR_renM h v y hv) (VRs_renM h l r hr)
end
mutual
theorem VR_unren {ρ ρ' : Env} {f : Nat → Nat} : ∀ (v : AV) (x : Value), (∀ n ∈ v.names, ∀ l, ρ' (f n) = some l → ρ n = some l) → VR ρ' (v.ren f) x → VR ρ v x
  | .any, _, _, _ => by simp [VR]
  | .bool _, _, _, hv => by simpa [AV.ren, VR] using hv
  | .int _ _, _, _, hv => by simpa [AV.ren, VR] using hv
  | .ptr p, _, h, hv => by
    simp only [AV.ren, VR] at hv ⊢
    obtain ⟨l, hl, hx⟩ := hv
    exact ⟨l, h p.x (by simp [AV.names]) _ hl, hx⟩
  | .nilptr, _, _, hv => by simpa [AV.ren, VR] using hv
  | .slice p es n, _, h, hv => by
    simp only [AV.ren, VR] at hv ⊢
    obtain ⟨l, cap, hl, r⟩ := hv
    exact ⟨l, cap, h p.x (by simp [AV.names]) _ hl, r⟩
  | .nilslice, _, _, hv => by simpa [AV.ren, VR] using hv
  | .func _ a c, _, h, hv => by
    simp only [AV.ren, VR] at hv ⊢
    obtain ⟨a', c', hx, ha, hc⟩ := hv
    exact ⟨a', c', hx, VRs_unren a _ (fun n hn => h n (by simp [AV.names, hn])) ha, VRs_unren c _ (fun n hn => h n (by simp [AV.names, hn])) hc⟩
  | .nilfunc, _, _, hv => by simpa [AV.ren, VR] using hv
  | .iface _ v, _, h, hv => by
    simp only [AV.ren, VR] at hv ⊢
    obtain ⟨y, hx, hy⟩ := hv
    exact ⟨y, hx, VR_unren v y (fun n hn => h n (by simpa [AV.names] using hn)) hy⟩
  | .nilface, _, _, hv => by simpa [AV.ren, VR] using hv
  | .agg l, _, h, hv => by
    simp only [AV.ren, VR] at hv ⊢
    obtain ⟨a, hx, ha⟩ := hv
    exact ⟨a, hx, VRs_unren l _ (fun n hn => h n (by simpa [AV.names] using hn)) ha⟩
  | .tup l, _, h, hv => by
    simp only [AV.ren, VR] at hv ⊢
    obtain ⟨a, hx, ha⟩ := hv
    exact ⟨a, hx, VRs_unren l _ (fun n hn => h n (by simpa [AV.names] using hn)) ha⟩
  | .lit _, _, _, hv => by simpa [AV.ren, VR] using hv
theorem VRs_unren {ρ ρ' : Env} {f : Nat → Nat} : ∀ (l : List AV) (ys : List Value), (∀ n ∈ AV.namesL l, ∀ l', ρ' (f n) = some l' → ρ n = some l') → VRs ρ' (AV.renL f l) ys → VRs ρ l ys
  | [], _, _, hl => by simpa [AV.renL] using hl
  | v :: l, _, h, hl => by
    simp only [AV.renL] at hl
    obtain ⟨y, r, rfl, hv, hr⟩ := VRs_cons.1 hl
    exact VRs_cons' (VR_unren v y (fun n hn => h n (by simp [AV.namesL, hn])) hv) (VRs_unren l r (fun n hn => h n (by simp [AV.namesL, hn])) hr)
end
mutual
theorem ren_back {f g : Nat → Nat} : ∀ v : AV, (∀ n ∈ v.names, g (f n) = n) → (v.ren f).ren g = v
  | .any, _ => rfl
  | .bool _, _ => rfl
  | .int _ _, _ => rfl
  | .ptr p, h => by simp only [AV.ren]; rw [h p.x (by simp [AV.names])]
  | .nilptr, _ => rfl
  | .slice p es n, h => by simp only [AV.ren]; rw [h p.x (by simp [AV.names])]
  | .nilslice, _ => rfl
  | .func _ a c, h => by
    simp only [AV.ren]
    rw [renL_back a (fun n hn => h n (by simp [AV.names, hn])), renL_back c (fun n hn => h n (by simp [AV.names, hn]))]
  | .nilfunc, _ => rfl
  | .iface _ v, h => by simp only [AV.ren]; rw [ren_back v (fun n hn => h n (by simpa [AV.names] using hn))]
  | .nilface, _ => rfl
  | .agg l, h => by simp only [AV.ren]; rw [renL_back l (fun n hn => h n (by simpa [AV.names] using hn))]
  | .tup l, h => by simp only [AV.ren]; rw [renL_back l (fun n hn => h n (by simpa [AV.names] using hn))]
  | .lit _, _ => rfl
theorem renL_back {f g : Nat → Nat} : ∀ l : List AV, (∀ n ∈ AV.namesL l, g (f n) = n) → AV.renL g (AV.renL f l) = l
  | [], _ => rfl
  | v :: l, h => by
    simp only [AV.renL]
    rw [ren_back v (fun n hn => h n (by simp [AV.namesL, hn])), renL_back l (fun n hn => h n (by simp [AV.namesL, hn]))]
end
theorem segRen_back {f g : Nat → Nat} : ∀ s : List Seg, (∀ n ∈ segNames s, g (f n) = n) → segRen g (segRen f s) = s
  | [], _ => rfl
  | .cell v :: r, h => by
    simp only [segRen]
    rw [ren_back v (fun n hn => h n (by simp [segNames, hn])), segRen_back r (fun n hn => h n (by simp [segNames, hn]))]
  | .arr sh m d :: r, h => by
    simp only [segRen]
    rw [segRen_back r (fun n hn => h n (by simpa [segNames] using hn))]

def blkRen (f : Nat → Nat) (b : Blk) : Blk := { b with segs := segRen f b.segs }
def renH (f : Nat → Nat) : Heap → Heap
  | [] => []
  | (x, b) :: h => (f x, blkRen f b) :: renH f h
def renE (f : Nat → Nat) : Eff → Eff
  | [] => []
  | (x, some b) :: e => (f x, some (blkRen f b)) :: renE f e
  | (x, none) :: e => (f x, none) :: renE f e

/-- One memory is another's, by other names. -/
def Twin (f : Nat → Nat) (F H : Heap) : Prop := (∀ x, F.find (f x) = (H.find x).map (blkRen f)) ∧ ∀ y b, F.find y = some b → ∃ x, y = f x
section
variable {f : Nat → Nat} (hf : ∀ i j, f i = f j → i = j)
include hf
theorem twin_ren : ∀ H : Heap, Twin f (renH f H) H
  | [] => ⟨fun x => rfl, fun y b h => by simp [renH, Heap.find] at h⟩
  | (z, c) :: H => by
    obtain ⟨h1, h2⟩ := twin_ren H
    constructor
    · intro x
      simp only [renH]
      by_cases h : z = x
      · subst h; rw [find_cons_eq, find_cons_eq]; rfl
      · rw [find_cons_ne _ _ h, find_cons_ne _ _ (fun he => h (hf _ _ he)), h1]
    · intro y b hy
      simp only [renH] at hy
      by_cases h : f z = y
      · exact ⟨z, h.symm⟩
      · rw [find_cons_ne _ _ h] at hy; exact h2 y b hy
theorem twin_put {F H : Heap} (h : Twin f F H) (x : Nat) (b : Blk) : Twin f (F.put (f x) (blkRen f b)) (H.put x b) := by
  constructor
  · intro y
    rw [find_put, find_put]
    by_cases hy : y = x
    · subst hy; simp
    · rw [if_neg hy, if_neg (fun he => hy (hf _ _ he)), h.1]
  · intro y c hy
    rw [find_put] at hy
    split at hy
    · rename_i e; exact ⟨x, e⟩
    · exact h.2 y c hy
theorem twin_del {F H : Heap} (h : Twin f F H) (x : Nat) : Twin f (F.del (f x)) (H.del x) := by
  constructor
  · intro y
    rw [find_del, find_del]
    by_cases hy : y = x
    · subst hy; simp
    · rw [if_neg hy, if_neg (fun he => hy (hf _ _ he)), h.1]
  · intro y c hy
    rw [find_del] at hy
    split at hy
    · simp at hy
    · exact h.2 y c hy
theorem twin_upd : ∀ (e : Eff) {F H : Heap}, Twin f F H → Twin f (F.upd (renE f e)) (H.upd e)
  | [], F, H, h => h
  | (x, some b) :: e, F, H, h => by simp only [renE, Heap.upd]; exact twin_upd e (twin_put hf h x b)
  | (x, none) :: e, F, H, h => by simp only [renE, Heap.upd]; exact twin_upd e (twin_del hf h x)
end
theorem renE_names {f : Nat → Nat} : ∀ {e : Eff} {y : Nat}, y ∈ namesOf (renE f e) → ∃ x ∈ namesOf e, y = f x
  | [], y, h => by simp [renE, namesOf] at h
  | (x, some b) :: e, y, h => by
    simp only [renE, namesOf, List.mem_cons] at h
    rcases h with rfl | h
    · exact ⟨x, by simp [namesOf], rfl⟩
    · obtain ⟨z, hz, r⟩ := renE_names h; exact ⟨z, by simp [namesOf, hz], r⟩
  | (x, none) :: e, y, h => by
    simp only [renE, namesOf, List.mem_cons] at h
    rcases h with rfl | h
    · exact ⟨x, by simp [namesOf], rfl⟩
    · obtain ⟨z, hz, r⟩ := renE_names h; exact ⟨z, by simp [namesOf, hz], r⟩

/-- The names of memory from nought on are so many given names; those behind are new ones. -/
def mapN (xs : List Nat) (N i : Nat) : Nat := match xs[i]? with
  | some x => x
  | none => N + (i - xs.length)
theorem mapN_lt {xs : List Nat} {N i : Nat} (h : i < xs.length) : xs[i]? = some (mapN xs N i) := by
  unfold mapN; rw [List.getElem?_eq_getElem h]
theorem mapN_ge {xs : List Nat} {N i : Nat} (h : xs.length ≤ i) : mapN xs N i = N + (i - xs.length) := by
  unfold mapN; rw [List.getElem?_eq_none h]
theorem mapN_mem {xs : List Nat} {N i : Nat} (h : i < xs.length) : mapN xs N i ∈ xs := List.mem_of_getElem? (mapN_lt h)
theorem mapN_inj {xs : List Nat} {N : Nat} (hnd : nodupB xs = true) (hlt : ∀ x ∈ xs, x < N) (i j : Nat) (h : mapN xs N i = mapN xs N j) : i = j := by
  by_cases hi : i < xs.length <;> by_cases hj : j < xs.length
  · have h1 := nodupB_pos hnd i _ (mapN_lt (N := N) hi)
    have h2 := nodupB_pos hnd j _ (mapN_lt (N := N) hj)
    rw [← h1, ← h2, h]
  · have := hlt _ (mapN_mem (N := N) hi)
    rw [h, mapN_ge (by omega)] at this; omega
  · have := hlt _ (mapN_mem (N := N) hj)
    rw [← h, mapN_ge (by omega)] at this; omega
  · rw [mapN_ge (by omega), mapN_ge (by omega)] at h; omega

section
variable {P : Program}
theorem ans_ren {g : FuncId} {args : List AV} {Hc : Heap} {v : AV} {e : Eff} {k' : Nat} {xs : List Nat} {N : Nat} (h : Ans P g args Hc xs.length v e k') (hkk : xs.length ≤ k') (hnd : nodupB xs = true)
    (hlt : ∀ x ∈ xs, x < N) (hargs : ∀ n ∈ AV.namesL args, n < xs.length) (hH : ∀ x b, Hc.find x = some b → x < xs.length ∧ ∀ n ∈ segNames b.segs, n < xs.length) (he : ∀ x ∈ namesOf e, x < k' ∧ (x < xs.length → Hc.find x ≠ none))
    {H : Heap} (hsub : ∀ x b, (renH (mapN xs N) Hc).find x = some b → H.find x = some b) :
    Ans P g (AV.renL (mapN xs N) args) H N (v.ren (mapN xs N)) (renE (mapN xs N) e) (N + (k' - xs.length)) := by
  intro ρ w vs hvs hi hf
  have inj := mapN_inj (N := N) hnd hlt
  have tw := twin_ren inj Hc
  generalize hfe : mapN xs N = f at *
  have f1 : ∀ i, i < xs.length → xs[i]? = some (f i) := fun i hi => by rw [← hfe]; exact mapN_lt hi
  have f2 : ∀ i, i < xs.length → f i < N := fun i hi => by rw [← hfe]; exact hlt _ (mapN_mem hi)
  have f3 : ∀ i, xs.length ≤ i → f i = N + (i - xs.length) := fun i hi => by rw [← hfe]; exact mapN_ge hi
  let ρc : Env := fun i => if i < xs.length then ρ (f i) else none
  have c1 : ∀ i, i < xs.length → ρc i = ρ (f i) := fun i hi => by simp [ρc, hi]
  have c2 : ∀ i l, ρc i = some l → i < xs.length ∧ ρ (f i) = some l := fun i l hl => by
    simp only [ρc] at hl
    split at hl
    · exact ⟨by assumption, hl⟩
    · simp at hl
  have hargsc : VRs ρc args vs := VRs_unren args vs (fun n hn l hl => by rw [c1 n (hargs n hn)]; exact hl) hvs
  have big : ∀ x b, Hc.find x = some b → H.find (f x) = some (blkRen f b) := fun x b hx => hsub _ _ (by rw [tw.1, hx]; rfl)
  have hic : Inv ρc Hc w := by
    constructor
    · intro x b hx
      obtain ⟨hx1, hx2⟩ := hH x b hx
      obtain ⟨l, hl, c, e, fr, q1, q2, q3, q4⟩ := hi.blk _ _ (big x b hx)
      refine ⟨l, by rw [c1 x hx1]; exact hl, c, e, fr, q1, q2, q3, fun o u hu => ?_⟩
      obtain ⟨z, hz, hr⟩ := q4 o (u.ren f) (by simp only [blkRen, flat_ren, List.getElem?_map, hu]; rfl)
      exact ⟨z, hz, VR_unren u z (fun n hn l hl => by rw [c1 n (hx2 n (flat_names _ u (List.mem_of_getElem? hu) n hn))]; exact hl) hr⟩
    · intro x y bx b' lx ly hx hy hlx hly hrw hb
      exact inj _ _ (hi.inj _ _ _ _ lx ly (big x bx hx) (big y b' hy) (c2 x lx hlx).2 (c2 y ly hly).2 hrw hb)
  refine (h ρc w vs hargsc hic (fun x h1 h2 => by simp [ρc]; omega)).mono ?_
  rintro v' w' ⟨ρc', hst, hv⟩
  let ρ' : Env := fun y => if N ≤ y ∧ y < N + (k' - xs.length) then ρc' (xs.length + (y - N)) else ρ y
  have hren : ∀ n l, ρc' n = some l → ρ' (f n) = some l := by
    intro n l hl
    by_cases hn : n < xs.length
    · rw [hst.ext n (by omega), c1 n hn] at hl
      have := f2 n hn
      simp only [ρ']
      rw [if_neg (by omega)]; exact hl
    · by_cases hn2 : n < k'
      · simp only [ρ']
        rw [f3 n (by omega), if_pos (by omega), show xs.length + (N + (n - xs.length) - N) = n by omega]; exact hl
      · rw [hst.ext n (by omega)] at hl
        exact absurd (c2 n l hl).1 hn
  have tu := twin_upd inj e tw
  have back : ∀ y b, ((renH f Hc).upd (renE f e)).find y = some b → ∃ x b0 l, y = f x ∧ (Hc.upd e).find x = some b0 ∧ b = blkRen f b0 ∧ ρc' x = some l ∧ ρ' y = some l ∧ BlkRel ρc' w' l b0 := by
    intro y b hy
    obtain ⟨x, rfl⟩ := tu.2 y b hy
    rw [tu.1] at hy
    cases hq : (Hc.upd e).find x with
    | none => rw [hq] at hy; simp at hy
    | some b0 =>
      rw [hq] at hy; simp at hy
      obtain ⟨l, hl, hb⟩ := hst.inv.blk x b0 hq
      exact ⟨x, b0, l, rfl, hq, hy.symm, hl, hren x l hl, hb⟩
  have step : Step ρ (renH f Hc) N w ρ' ((renH f Hc).upd (renE f e)) (N + (k' - xs.length)) w' := by
    constructor
    · intro x hx; simp only [ρ']; rw [if_neg hx]
    · exact hst.os
    · exact hst.tape
    · exact hst.output
    · exact hst.size
    · intro b hb hno
      refine hst.block b hb (fun ⟨x, q, l, hx, hl, r⟩ => hno ⟨f x, blkRen f q, l, by rw [tw.1, hx]; rfl, (c2 x l hl).2, r⟩)
    · constructor
      · intro y b hy
        obtain ⟨x, b0, l, rfl, hx, rfl, hl, hl', c, e2, fr, q1, q2, q3, q4⟩ := back y b hy
        refine ⟨l, hl', c, e2, fr, q1, q2, q3, fun o u hu => ?_⟩
        simp only [blkRen, flat_ren, List.getElem?_map] at hu
        cases hq : (flat b0.segs)[o]? with
        | none => rw [hq] at hu; simp at hu
        | some u0 =>
          rw [hq] at hu; simp at hu; subst hu
          obtain ⟨z, hz, hr⟩ := q4 o u0 hq
          exact ⟨z, hz, VR_renM hren u0 z hr⟩
      · intro y z by' bz ly lz hy hz hly hlz hr hbb
        obtain ⟨x, b0, l, rfl, hx, rfl, hl, hl', _⟩ := back y by' hy
        obtain ⟨x2, b2, l2, rfl, hx2, rfl, hl2, hl2', _⟩ := back z bz hz
        rw [hly] at hl'; simp at hl'; subst hl'
        rw [hlz] at hl2'; simp at hl2'; subst hl2'
        rw [hst.inv.inj x x2 b0 b2 _ _ hx hx2 hl hl2 hr hbb]
    · intro y q l hy hl
      obtain ⟨x, b0, l2, rfl, hx, rfl, hl2, hl2', _⟩ := back y q hy
      rw [hl] at hl2'; simp at hl2'; subst hl2'
      rcases hst.prov x b0 _ hx hl2 with ⟨z, kz, lz, hz, hlz, r⟩ | h'
      · exact .inl ⟨f z, blkRen f kz, lz, by rw [tw.1, hz]; rfl, (c2 z lz hlz).2, r⟩
      · exact .inr h'
  refine ⟨ρ', Step.frame step hf hi hsub (fun y hy => ?_), VR_renM hren v v' hv⟩
  obtain ⟨x, hx, rfl⟩ := renE_names hy
  obtain ⟨h1, h2⟩ := he x hx
  by_cases hxk : x < xs.length
  · left
    rw [tw.1]
    cases hq : Hc.find x with
    | none => exact absurd hq (h2 hxk)
    | some b => simp
  · right
    rw [f3 x (by omega)]; omega
end
end Go.Sx

/- Several texts in one. -/
import Derived.Test.YtkbcfbehebbmhaaGreatSxX
import Derived.Test.YtkbcfbehebbmhaaGreatSxLen2
import Derived.Test.YtkbcfbehebbmhaaGreatSxEC
import Derived.Test.YtkbcfbehebbmhaaGreatVa03
import Derived.Test.YtkbcfbehebbmhaaGreatPlBusB3
import Derived.Test.YtkbcfbehebbmhaaGreatPlBusX2
import Derived.Test.YtkbcfbehebbmhaaGreatPlWkT
import Derived.Test.YtkbcfbehebbmhaaGreatPlWkX
import Derived.Test.YtkbcfbehebbmhaaGreatPlWkY
set_option linter.unusedSimpArgs false
set_option linter.unusedVariables false
set_option linter.unnecessarySimpa false
/- What loops do, round by round. -/
namespace Go.Sx
open Go

/-! ### WalkWalks: ask by ask -/
inductive MwwS where
  | a (rw : Bool) (na : Nat) (ma : Nat) (da : List (List AV)) (n : Nat) (tg : List (List AV)) (m : Nat) (d : List (List AV)) (c0 : BitVec 64) (c1 : BitVec 64) (c2 : BitVec 64) (pr : List (List AV)) (p1 : BitVec 32) (p2 : BitVec 32) (en : List (List AV)) (th : List (List AV)) (q : List (List AV)) (u1 : BitVec 64) (u2 : BitVec 64) (u3 : Bool) (w : Bool) (nx : Nat) (t : Nat) (mx : Nat) (dx : List (List AV)) (mt : Nat) (T : List (List AV)) (a0 : BitVec 64) (a1 : BitVec 64) (a2 : Bool) (xl : List (List AV)) (xt : List (List AV)) (xe : Bool) (xo : BitVec 64) (xw : Bool) (i : BitVec 64)
  | z (n : Nat) (tg : List (List AV)) (m : Nat) (d : List (List AV)) (c0 : BitVec 64) (c1 : BitVec 64) (c2 : BitVec 64) (pr : List (List AV)) (p1 : BitVec 32) (p2 : BitVec 32) (en : List (List AV)) (th : List (List AV)) (q : List (List AV)) (u1 : BitVec 64) (u2 : BitVec 64) (u3 : Bool) (w : Bool) (nx : Nat) (t : Nat) (mx : Nat) (dx : List (List AV)) (mt : Nat) (T : List (List AV)) (a0 : BitVec 64) (a1 : BitVec 64) (a2 : Bool) (xl : List (List AV)) (xt : List (List AV)) (xe : Bool) (xo : BitVec 64) (xw : Bool) (i : BitVec 64)
inductive MwwE where
  | fine (n : Nat) (tg : List (List AV)) (m : Nat) (d : List (List AV)) (nx : Nat) (t : Nat) (mx : Nat) (dx : List (List AV)) (mt : Nat) (T : List (List AV)) (b2 : Blk) (b5 : Blk) (b6 : Blk) (b7 : Blk) (b8 : Blk) (b9 : Blk) (b13 : Blk) (b14 : Blk) (b15 : Blk) (b16 : Blk)
def mwwT : MwwS → List AV
  | .a _ na _ _ _ _ _ _ _ _ _ _ _ _ _ _ _ _ _ _ _ _ _ _ _ _ _ _ _ _ _ _ _ _ _ i => [.slice ⟨1, 0, 0, 5, 0⟩ 5 na, .ptr ⟨2, 0, 0, 0, 0⟩, .ptr ⟨9, 0, 0, 0, 0⟩, .int .i64 i]
  | .z _ _ _ _ _ _ _ _ _ _ _ _ _ _ _ _ _ _ _ _ _ _ _ _ _ _ _ _ _ _ _ i => [.nilslice, .ptr ⟨2, 0, 0, 0, 0⟩, .ptr ⟨9, 0, 0, 0, 0⟩, .int .i64 i]
def mwwH : MwwS → Heap
  | .a rw _ ma da n tg m d c0 c1 c2 pr p1 p2 en th q u1 u2 u3 w nx t mx dx mt T a0 a1 a2 xl xt xe xo xw _ => [(1, ⟨rw, [.arr [.int .u64, .int .u64, .int .u64, .int .i64, .int .i64] ma da]⟩), (2, bus2), (3, ⟨true, [.cell (.slice ⟨4, 0, 0, 1, 0⟩ 1 n), .arr [.int .u64] 64 tg]⟩), (4, ⟨true, [.arr [.int .u8] m d]⟩), (5, (bClint c0 c1 c2)), (6, (bPlic pr p1 p2 en th)), (7, (bUart q u1 u2 u3)), (8, (bPow w)), (9, xbus9), (10, ⟨true, [.cell (.slice ⟨11, 0, 0, 1, 0⟩ 1 nx), .cell (.slice ⟨12, 0, 0, 1, 0⟩ 1 t)]⟩), (11, ⟨true, [.arr [.int .u8] mx dx]⟩), (12, ⟨true, [.arr [.bool] mt T]⟩), (13, (xClint a0 a1 a2)), (14, (xPlic xl xt)), (15, (xUart xe xo)), (16, (xPow xw))]
  | .z n tg m d c0 c1 c2 pr p1 p2 en th q u1 u2 u3 w nx t mx dx mt T a0 a1 a2 xl xt xe xo xw _ => [(2, bus2), (3, ⟨true, [.cell (.slice ⟨4, 0, 0, 1, 0⟩ 1 n), .arr [.int .u64] 64 tg]⟩), (4, ⟨true, [.arr [.int .u8] m d]⟩), (5, (bClint c0 c1 c2)), (6, (bPlic pr p1 p2 en th)), (7, (bUart q u1 u2 u3)), (8, (bPow w)), (9, xbus9), (10, ⟨true, [.cell (.slice ⟨11, 0, 0, 1, 0⟩ 1 nx), .cell (.slice ⟨12, 0, 0, 1, 0⟩ 1 t)]⟩), (11, ⟨true, [.arr [.int .u8] mx dx]⟩), (12, ⟨true, [.arr [.bool] mt T]⟩), (13, (xClint a0 a1 a2)), (14, (xPlic xl xt)), (15, (xUart xe xo)), (16, (xPow xw))]
def mwwN : MwwS → Nat
  | .a _ _ _ _ _ _ _ _ _ _ _ _ _ _ _ _ _ _ _ _ _ _ _ _ _ _ _ _ _ _ _ _ _ _ _ _ => 17
  | .z _ _ _ _ _ _ _ _ _ _ _ _ _ _ _ _ _ _ _ _ _ _ _ _ _ _ _ _ _ _ _ _ => 17
def mwwDec_a (vs : List AV) (H : Heap) (N : Nat) : Option MwwS := match vs, H.find 1, H.find 2, H.find 3, H.find 4, H.find 5, H.find 6, H.find 7, H.find 8, H.find 9, H.find 10, H.find 11, H.find 12, H.find 13, H.find 14, H.find 15, H.find 16, N with
  | [.slice ⟨1, 0, 0, 5, 0⟩ 5 na, .ptr ⟨2, 0, 0, 0, 0⟩, .ptr ⟨9, 0, 0, 0, 0⟩, .int .i64 i], some ⟨rw, [.arr [.int .u64, .int .u64, .int .u64, .int .i64, .int .i64] ma da]⟩, some b2, some ⟨true, [.cell (.slice ⟨4, 0, 0, 1, 0⟩ 1 n), .arr [.int .u64] 64 tg]⟩, some ⟨true, [.arr [.int .u8] m d]⟩, some b5, some b6, some b7, some b8, some b9, some ⟨true, [.cell (.slice ⟨11, 0, 0, 1, 0⟩ 1 nx), .cell (.slice ⟨12, 0, 0, 1, 0⟩ 1 t)]⟩, some ⟨true, [.arr [.int .u8] mx dx]⟩, some ⟨true, [.arr [.bool] mt T]⟩, some b13, some b14, some b15, some b16, 17 => (dBus2 b2).bind fun _ => (dClint b5).bind fun (c0, c1, c2) => (dPlic b6).bind fun (pr, p1, p2, en, th) => (dUart b7).bind fun (q, u1, u2, u3) => (dPow b8).bind fun w => (dXbus9 b9).bind fun _ => (dXClint b13).bind fun (a0, a1, a2) => (dXPlic b14).bind fun (xl, xt) => (dXUart b15).bind fun (xe, xo) => (dXPow b16).bind fun xw => some (.a rw na ma da n tg m d c0 c1 c2 pr p1 p2 en th q u1 u2 u3 w nx t mx dx mt T a0 a1 a2 xl xt xe xo xw i)
  | _, _, _, _, _, _, _, _, _, _, _, _, _, _, _, _, _, _ => none
theorem mwwDec_a_ok (vs : List AV) (H : Heap) (N : Nat) (y : MwwS) (h : mwwDec_a vs H N = some y) : vs = mwwT y ∧ (mwwH y).sub H ∧ N = mwwN y := by
  unfold mwwDec_a at h
  split at h
  · obtain ⟨u_, e2, h⟩ := Option.bind_eq_some_iff.1 h
    obtain ⟨⟨c0, c1, c2⟩, e5, h⟩ := Option.bind_eq_some_iff.1 h
    obtain ⟨⟨pr, p1, p2, en, th⟩, e6, h⟩ := Option.bind_eq_some_iff.1 h
    obtain ⟨⟨q, u1, u2, u3⟩, e7, h⟩ := Option.bind_eq_some_iff.1 h
    obtain ⟨w, e8, h⟩ := Option.bind_eq_some_iff.1 h
    obtain ⟨u_, e9, h⟩ := Option.bind_eq_some_iff.1 h
    obtain ⟨⟨a0, a1, a2⟩, e13, h⟩ := Option.bind_eq_some_iff.1 h
    obtain ⟨⟨xl, xt⟩, e14, h⟩ := Option.bind_eq_some_iff.1 h
    obtain ⟨⟨xe, xo⟩, e15, h⟩ := Option.bind_eq_some_iff.1 h
    obtain ⟨xw, e16, h⟩ := Option.bind_eq_some_iff.1 h
    obtain rfl := dBus2_ok e2
    obtain rfl := dClint_ok e5
    obtain rfl := dPlic_ok e6
    obtain rfl := dUart_ok e7
    obtain rfl := dPow_ok e8
    obtain rfl := dXbus9_ok e9
    obtain rfl := dXClint_ok e13
    obtain rfl := dXPlic_ok e14
    obtain rfl := dXUart_ok e15
    obtain rfl := dXPow_ok e16
    cases h; refine ⟨rfl, ?_, rfl⟩; repeat (first | exact sub_nil | refine sub_cons (by assumption) ?_)
  · cases h
def mwwDec_z (vs : List AV) (H : Heap) (N : Nat) : Option MwwS := match vs, H.find 2, H.find 3, H.find 4, H.find 5, H.find 6, H.find 7, H.find 8, H.find 9, H.find 10, H.find 11, H.find 12, H.find 13, H.find 14, H.find 15, H.find 16, N with
  | [.nilslice, .ptr ⟨2, 0, 0, 0, 0⟩, .ptr ⟨9, 0, 0, 0, 0⟩, .int .i64 i], some b2, some ⟨true, [.cell (.slice ⟨4, 0, 0, 1, 0⟩ 1 n), .arr [.int .u64] 64 tg]⟩, some ⟨true, [.arr [.int .u8] m d]⟩, some b5, some b6, some b7, some b8, some b9, some ⟨true, [.cell (.slice ⟨11, 0, 0, 1, 0⟩ 1 nx), .cell (.slice ⟨12, 0, 0, 1, 0⟩ 1 t)]⟩, some ⟨true, [.arr [.int .u8] mx dx]⟩, some ⟨true, [.arr [.bool] mt T]⟩, some b13, some b14, some b15, some b16, 17 => (dBus2 b2).bind fun _ => (dClint b5).bind fun (c0, c1, c2) => (dPlic b6).bind fun (pr, p1, p2, en, th) => (dUart b7).bind fun (q, u1, u2, u3) => (dPow b8).bind fun w => (dXbus9 b9).bind fun _ => (dXClint b13).bind fun (a0, a1, a2) => (dXPlic b14).bind fun (xl, xt) => (dXUart b15).bind fun (xe, xo) => (dXPow b16).bind fun xw => some (.z n tg m d c0 c1 c2 pr p1 p2 en th q u1 u2 u3 w nx t mx dx mt T a0 a1 a2 xl xt xe xo xw i)
  | _, _, _, _, _, _, _, _, _, _, _, _, _, _, _, _, _ => none
theorem mwwDec_z_ok (vs : List AV) (H : Heap) (N : Nat) (y : MwwS) (h : mwwDec_z vs H N = some y) : vs = mwwT y ∧ (mwwH y).sub H ∧ N = mwwN y := by
  unfold mwwDec_z at h
  split at h
  · obtain ⟨u_, e2, h⟩ := Option.bind_eq_some_iff.1 h
    obtain ⟨⟨c0, c1, c2⟩, e5, h⟩ := Option.bind_eq_some_iff.1 h
    obtain ⟨⟨pr, p1, p2, en, th⟩, e6, h⟩ := Option.bind_eq_some_iff.1 h
    obtain ⟨⟨q, u1, u2, u3⟩, e7, h⟩ := Option.bind_eq_some_iff.1 h
    obtain ⟨w, e8, h⟩ := Option.bind_eq_some_iff.1 h
    obtain ⟨u_, e9, h⟩ := Option.bind_eq_some_iff.1 h
    obtain ⟨⟨a0, a1, a2⟩, e13, h⟩ := Option.bind_eq_some_iff.1 h
    obtain ⟨⟨xl, xt⟩, e14, h⟩ := Option.bind_eq_some_iff.1 h
    obtain ⟨⟨xe, xo⟩, e15, h⟩ := Option.bind_eq_some_iff.1 h
    obtain ⟨xw, e16, h⟩ := Option.bind_eq_some_iff.1 h
    obtain rfl := dBus2_ok e2
    obtain rfl := dClint_ok e5
    obtain rfl := dPlic_ok e6
    obtain rfl := dUart_ok e7
    obtain rfl := dPow_ok e8
    obtain rfl := dXbus9_ok e9
    obtain rfl := dXClint_ok e13
    obtain rfl := dXPlic_ok e14
    obtain rfl := dXUart_ok e15
    obtain rfl := dXPow_ok e16
    cases h; refine ⟨rfl, ?_, rfl⟩; repeat (first | exact sub_nil | refine sub_cons (by assumption) ?_)
  · cases h
def mwwDec (vs : List AV) (H : Heap) (N : Nat) : Option MwwS := orO (mwwDec_a vs H N) (mwwDec_z vs H N)
theorem mwwDec_ok (vs : List AV) (H : Heap) (N : Nat) (y : MwwS) (h : mwwDec vs H N = some y) : vs = mwwT y ∧ (mwwH y).sub H ∧ N = mwwN y := (orO_some h).elim (fun h => mwwDec_a_ok _ _ _ _ h) (fun h => mwwDec_z_ok _ _ _ _ h)
def mwwO : MwwE → Out
  | .fine _ _ _ _ _ _ _ _ _ _ _ _ _ _ _ _ _ _ _ _ => .exit 0
def mwwV : MwwE → List AV
  | .fine _ _ _ _ _ _ _ _ _ _ _ _ _ _ _ _ _ _ _ _ => [.ptr ⟨2, 0, 0, 0, 0⟩, .ptr ⟨9, 0, 0, 0, 0⟩]
def mwwG : MwwE → Heap
  | .fine n tg m d nx t mx dx mt T b2 b5 b6 b7 b8 b9 b13 b14 b15 b16 => [(2, b2), (3, ⟨true, [.cell (.slice ⟨4, 0, 0, 1, 0⟩ 1 n), .arr [.int .u64] 64 tg]⟩), (4, ⟨true, [.arr [.int .u8] m d]⟩), (5, b5), (6, b6), (7, b7), (8, b8), (9, b9), (10, ⟨true, [.cell (.slice ⟨11, 0, 0, 1, 0⟩ 1 nx), .cell (.slice ⟨12, 0, 0, 1, 0⟩ 1 t)]⟩), (11, ⟨true, [.arr [.int .u8] mx dx]⟩), (12, ⟨true, [.arr [.bool] mt T]⟩), (13, b13), (14, b14), (15, b15), (16, b16)]
def mwwM : MwwE → Nat
  | .fine _ _ _ _ _ _ _ _ _ _ _ _ _ _ _ _ _ _ _ _ => 17
def mwwDecE (o : Out) (vs : List AV) (H : Heap) (N : Nat) : Option MwwE := match o, vs, H.find 2, H.find 3, H.find 4, H.find 5, H.find 6, H.find 7, H.find 8, H.find 9, H.find 10, H.find 11, H.find 12, H.find 13, H.find 14, H.find 15, H.find 16, N with
  | .exit 0, [.ptr ⟨2, 0, 0, 0, 0⟩, .ptr ⟨9, 0, 0, 0, 0⟩], some b2, some ⟨true, [.cell (.slice ⟨4, 0, 0, 1, 0⟩ 1 n), .arr [.int .u64] 64 tg]⟩, some ⟨true, [.arr [.int .u8] m d]⟩, some b5, some b6, some b7, some b8, some b9, some ⟨true, [.cell (.slice ⟨11, 0, 0, 1, 0⟩ 1 nx), .cell (.slice ⟨12, 0, 0, 1, 0⟩ 1 t)]⟩, some ⟨true, [.arr [.int .u8] mx dx]⟩, some ⟨true, [.arr [.bool] mt T]⟩, some b13, some b14, some b15, some b16, 17 => some (.fine n tg m d nx t mx dx mt T b2 b5 b6 b7 b8 b9 b13 b14 b15 b16)
  | _, _, _, _, _, _, _, _, _, _, _, _, _, _, _, _, _, _ => none
theorem mwwDecE_ok (o : Out) (vs : List AV) (H : Heap) (N : Nat) (z : MwwE) (h : mwwDecE o vs H N = some z) : o = mwwO z ∧ o ≠ .normal ∧ vs = mwwV z ∧ (mwwG z).sub H ∧ N = mwwM z := by
  unfold mwwDecE at h
  split at h
  all_goals first
    | (cases h; done)
    | (cases h; refine ⟨rfl, nofun, rfl, ?_, rfl⟩; repeat (first | exact sub_nil | refine sub_cons (by assumption) ?_))
noncomputable def mwwStep : MwwS → Option (MwwS ⊕ MwwE)
 | .a rw na ma da n tg m d c0 c1 c2 pr p1 p2 en th q u1 u2 u3 w nx t mx dx mt T a0 a1 a2 xl xt xe xo xw i =>
 (cond (i.slt (BitVec.ofNat 64 na))
 (cond (i.slt 20#64)
 (cond (nonneg IntKind.i64 i && decide (i.toNat < na))
 (cond (decide (0 + i.toNat < ma))
 (cond (nonneg IntKind.i64 (v_kit_Pick (asI64 ((da.getD (0 + i.toNat) []).tail.tail.tail.tail.headD AV.any)) 2#64) && decide ((v_kit_Pick (asI64 ((da.getD (0 + i.toNat) []).tail.tail.tail.tail.headD AV.any)) 2#64).toNat < 2))
 (cond (decide (0 + (v_kit_Pick (asI64 ((da.getD (0 + i.toNat) []).tail.tail.tail.tail.headD AV.any)) 2#64).toNat < 2))
 (cond (g_rmw n tg m d)
 (cond (v_wkE (v_wk n d (asU64 ((da.getD (0 + i.toNat) []).headD AV.any)) (asU64 ((da.getD (0 + i.toNat) []).tail.headD AV.any)) (1#64 + v_kit_Pick (asI64 ((da.getD (0 + i.toNat) []).tail.tail.tail.headD AV.any)) 3#64) (asI64 (([[AV.int IntKind.i64 0#64], [AV.int IntKind.i64 1#64]].getD (0 + (v_kit_Pick (asI64 ((da.getD (0 + i.toNat) []).tail.tail.tail.tail.headD AV.any)) 2#64).toNat) []).headD AV.any)) (asU64 ((da.getD (0 + i.toNat) []).tail.tail.headD AV.any))))
 (cond (g_xrw nx t mx dx mt T)
 (cond (v_wkE (v_wk nx dx (asU64 ((da.getD (0 + i.toNat) []).headD AV.any)) (asU64 ((da.getD (0 + i.toNat) []).tail.headD AV.any)) (1#64 + v_kit_Pick (asI64 ((da.getD (0 + i.toNat) []).tail.tail.tail.headD AV.any)) 3#64) (asI64 (([[AV.int IntKind.i64 0#64], [AV.int IntKind.i64 1#64]].getD (0 + (v_kit_Pick (asI64 ((da.getD (0 + i.toNat) []).tail.tail.tail.tail.headD AV.any)) 2#64).toNat) []).headD AV.any)) (asU64 ((da.getD (0 + i.toNat) []).tail.tail.headD AV.any))))
 (cond (!(v_wk n d (asU64 ((da.getD (0 + i.toNat) []).headD AV.any)) (asU64 ((da.getD (0 + i.toNat) []).tail.headD AV.any)) (1#64 + v_kit_Pick (asI64 ((da.getD (0 + i.toNat) []).tail.tail.tail.headD AV.any)) 3#64) (asI64 (([[AV.int IntKind.i64 0#64], [AV.int IntKind.i64 1#64]].getD (0 + (v_kit_Pick (asI64 ((da.getD (0 + i.toNat) []).tail.tail.tail.tail.headD AV.any)) 2#64).toNat) []).headD AV.any)) (asU64 ((da.getD (0 + i.toNat) []).tail.tail.headD AV.any))).why == (v_wk nx dx (asU64 ((da.getD (0 + i.toNat) []).headD AV.any)) (asU64 ((da.getD (0 + i.toNat) []).tail.headD AV.any)) (1#64 + v_kit_Pick (asI64 ((da.getD (0 + i.toNat) []).tail.tail.tail.headD AV.any)) 3#64) (asI64 (([[AV.int IntKind.i64 0#64], [AV.int IntKind.i64 1#64]].getD (0 + (v_kit_Pick (asI64 ((da.getD (0 + i.toNat) []).tail.tail.tail.tail.headD AV.any)) 2#64).toNat) []).headD AV.any)) (asU64 ((da.getD (0 + i.toNat) []).tail.tail.headD AV.any))).why)
           none
 (some (Sum.inl (MwwS.a rw na ma da n tg m d c0 c1 c2 pr p1 p2 en th q u1 u2 u3 w nx t mx dx mt T a0 a1 a2 xl xt xe xo xw (i + 1#64)))))
 (cond (!(0#64 == (v_wk nx dx (asU64 ((da.getD (0 + i.toNat) []).headD AV.any)) (asU64 ((da.getD (0 + i.toNat) []).tail.headD AV.any)) (1#64 + v_kit_Pick (asI64 ((da.getD (0 + i.toNat) []).tail.tail.tail.headD AV.any)) 3#64) (asI64 (([[AV.int IntKind.i64 0#64], [AV.int IntKind.i64 1#64]].getD (0 + (v_kit_Pick (asI64 ((da.getD (0 + i.toNat) []).tail.tail.tail.tail.headD AV.any)) 2#64).toNat) []).headD AV.any)) (asU64 ((da.getD (0 + i.toNat) []).tail.tail.headD AV.any))).asid && (0#64 == (v_wk nx dx (asU64 ((da.getD (0 + i.toNat) []).headD AV.any)) (asU64 ((da.getD (0 + i.toNat) []).tail.headD AV.any)) (1#64 + v_kit_Pick (asI64 ((da.getD (0 + i.toNat) []).tail.tail.tail.headD AV.any)) 3#64) (asI64 (([[AV.int IntKind.i64 0#64], [AV.int IntKind.i64 1#64]].getD (0 + (v_kit_Pick (asI64 ((da.getD (0 + i.toNat) []).tail.tail.tail.tail.headD AV.any)) 2#64).toNat) []).headD AV.any)) (asU64 ((da.getD (0 + i.toNat) []).tail.tail.headD AV.any))).lev && (0#64 == (v_wk nx dx (asU64 ((da.getD (0 + i.toNat) []).headD AV.any)) (asU64 ((da.getD (0 + i.toNat) []).tail.headD AV.any)) (1#64 + v_kit_Pick (asI64 ((da.getD (0 + i.toNat) []).tail.tail.tail.headD AV.any)) 3#64) (asI64 (([[AV.int IntKind.i64 0#64], [AV.int IntKind.i64 1#64]].getD (0 + (v_kit_Pick (asI64 ((da.getD (0 + i.toNat) []).tail.tail.tail.tail.headD AV.any)) 2#64).toNat) []).headD AV.any)) (asU64 ((da.getD (0 + i.toNat) []).tail.tail.headD AV.any))).page && (0#64 == (v_wk nx dx (asU64 ((da.getD (0 + i.toNat) []).headD AV.any)) (asU64 ((da.getD (0 + i.toNat) []).tail.headD AV.any)) (1#64 + v_kit_Pick (asI64 ((da.getD (0 + i.toNat) []).tail.tail.tail.headD AV.any)) 3#64) (asI64 (([[AV.int IntKind.i64 0#64], [AV.int IntKind.i64 1#64]].getD (0 + (v_kit_Pick (asI64 ((da.getD (0 + i.toNat) []).tail.tail.tail.tail.headD AV.any)) 2#64).toNat) []).headD AV.any)) (asU64 ((da.getD (0 + i.toNat) []).tail.tail.headD AV.any))).pte && true)))))
           none
 (cond (!(v_wk n d (asU64 ((da.getD (0 + i.toNat) []).headD AV.any)) (asU64 ((da.getD (0 + i.toNat) []).tail.headD AV.any)) (1#64 + v_kit_Pick (asI64 ((da.getD (0 + i.toNat) []).tail.tail.tail.headD AV.any)) 3#64) (asI64 (([[AV.int IntKind.i64 0#64], [AV.int IntKind.i64 1#64]].getD (0 + (v_kit_Pick (asI64 ((da.getD (0 + i.toNat) []).tail.tail.tail.tail.headD AV.any)) 2#64).toNat) []).headD AV.any)) (asU64 ((da.getD (0 + i.toNat) []).tail.tail.headD AV.any))).why == (v_wk nx dx (asU64 ((da.getD (0 + i.toNat) []).headD AV.any)) (asU64 ((da.getD (0 + i.toNat) []).tail.headD AV.any)) (1#64 + v_kit_Pick (asI64 ((da.getD (0 + i.toNat) []).tail.tail.tail.headD AV.any)) 3#64) (asI64 (([[AV.int IntKind.i64 0#64], [AV.int IntKind.i64 1#64]].getD (0 + (v_kit_Pick (asI64 ((da.getD (0 + i.toNat) []).tail.tail.tail.tail.headD AV.any)) 2#64).toNat) []).headD AV.any)) (asU64 ((da.getD (0 + i.toNat) []).tail.tail.headD AV.any))).why)
            none
 (cond (!0#64 == BitVec.ofNat 64 (v_wkN (v_wk nx dx (asU64 ((da.getD (0 + i.toNat) []).headD AV.any)) (asU64 ((da.getD (0 + i.toNat) []).tail.headD AV.any)) (1#64 + v_kit_Pick (asI64 ((da.getD (0 + i.toNat) []).tail.tail.tail.headD AV.any)) 3#64) (asI64 (([[AV.int IntKind.i64 0#64], [AV.int IntKind.i64 1#64]].getD (0 + (v_kit_Pick (asI64 ((da.getD (0 + i.toNat) []).tail.tail.tail.tail.headD AV.any)) 2#64).toNat) []).headD AV.any)) (asU64 ((da.getD (0 + i.toNat) []).tail.tail.headD AV.any)))))
             none
 (some (Sum.inl (MwwS.a rw na ma da n tg m d c0 c1 c2 pr p1 p2 en th q u1 u2 u3 w nx t mx (v_wkD nx dx (v_wk nx dx (asU64 ((da.getD (0 + i.toNat) []).headD AV.any)) (asU64 ((da.getD (0 + i.toNat) []).tail.headD AV.any)) (1#64 + v_kit_Pick (asI64 ((da.getD (0 + i.toNat) []).tail.tail.tail.headD AV.any)) 3#64) (asI64 (([[AV.int IntKind.i64 0#64], [AV.int IntKind.i64 1#64]].getD (0 + (v_kit_Pick (asI64 ((da.getD (0 + i.toNat) []).tail.tail.tail.tail.headD AV.any)) 2#64).toNat) []).headD AV.any)) (asU64 ((da.getD (0 + i.toNat) []).tail.tail.headD AV.any)))) mt (v_wkX nx T (v_wk nx dx (asU64 ((da.getD (0 + i.toNat) []).headD AV.any)) (asU64 ((da.getD (0 + i.toNat) []).tail.headD AV.any)) (1#64 + v_kit_Pick (asI64 ((da.getD (0 + i.toNat) []).tail.tail.tail.headD AV.any)) 3#64) (asI64 (([[AV.int IntKind.i64 0#64], [AV.int IntKind.i64 1#64]].getD (0 + (v_kit_Pick (asI64 ((da.getD (0 + i.toNat) []).tail.tail.tail.tail.headD AV.any)) 2#64).toNat) []).headD AV.any)) (asU64 ((da.getD (0 + i.toNat) []).tail.tail.headD AV.any)))) a0 a1 a2 xl xt xe xo xw (i + 1#64))))))))
         none)
 (cond (g_xrw nx t mx dx mt T)
 (cond (v_wkE (v_wk nx dx (asU64 ((da.getD (0 + i.toNat) []).headD AV.any)) (asU64 ((da.getD (0 + i.toNat) []).tail.headD AV.any)) (1#64 + v_kit_Pick (asI64 ((da.getD (0 + i.toNat) []).tail.tail.tail.headD AV.any)) 3#64) (asI64 (([[AV.int IntKind.i64 0#64], [AV.int IntKind.i64 1#64]].getD (0 + (v_kit_Pick (asI64 ((da.getD (0 + i.toNat) []).tail.tail.tail.tail.headD AV.any)) 2#64).toNat) []).headD AV.any)) (asU64 ((da.getD (0 + i.toNat) []).tail.tail.headD AV.any))))
 (cond (!((v_wk n d (asU64 ((da.getD (0 + i.toNat) []).headD AV.any)) (asU64 ((da.getD (0 + i.toNat) []).tail.headD AV.any)) (1#64 + v_kit_Pick (asI64 ((da.getD (0 + i.toNat) []).tail.tail.tail.headD AV.any)) 3#64) (asI64 (([[AV.int IntKind.i64 0#64], [AV.int IntKind.i64 1#64]].getD (0 + (v_kit_Pick (asI64 ((da.getD (0 + i.toNat) []).tail.tail.tail.tail.headD AV.any)) 2#64).toNat) []).headD AV.any)) (asU64 ((da.getD (0 + i.toNat) []).tail.tail.headD AV.any))).asid == 0#64 && ((v_wk n d (asU64 ((da.getD (0 + i.toNat) []).headD AV.any)) (asU64 ((da.getD (0 + i.toNat) []).tail.headD AV.any)) (1#64 + v_kit_Pick (asI64 ((da.getD (0 + i.toNat) []).tail.tail.tail.headD AV.any)) 3#64) (asI64 (([[AV.int IntKind.i64 0#64], [AV.int IntKind.i64 1#64]].getD (0 + (v_kit_Pick (asI64 ((da.getD (0 + i.toNat) []).tail.tail.tail.tail.headD AV.any)) 2#64).toNat) []).headD AV.any)) (asU64 ((da.getD (0 + i.toNat) []).tail.tail.headD AV.any))).lev == 0#64 && ((v_wk n d (asU64 ((da.getD (0 + i.toNat) []).headD AV.any)) (asU64 ((da.getD (0 + i.toNat) []).tail.headD AV.any)) (1#64 + v_kit_Pick (asI64 ((da.getD (0 + i.toNat) []).tail.tail.tail.headD AV.any)) 3#64) (asI64 (([[AV.int IntKind.i64 0#64], [AV.int IntKind.i64 1#64]].getD (0 + (v_kit_Pick (asI64 ((da.getD (0 + i.toNat) []).tail.tail.tail.tail.headD AV.any)) 2#64).toNat) []).headD AV.any)) (asU64 ((da.getD (0 + i.toNat) []).tail.tail.headD AV.any))).page == 0#64 && ((v_wk n d (asU64 ((da.getD (0 + i.toNat) []).headD AV.any)) (asU64 ((da.getD (0 + i.toNat) []).tail.headD AV.any)) (1#64 + v_kit_Pick (asI64 ((da.getD (0 + i.toNat) []).tail.tail.tail.headD AV.any)) 3#64) (asI64 (([[AV.int IntKind.i64 0#64], [AV.int IntKind.i64 1#64]].getD (0 + (v_kit_Pick (asI64 ((da.getD (0 + i.toNat) []).tail.tail.tail.tail.headD AV.any)) 2#64).toNat) []).headD AV.any)) (asU64 ((da.getD (0 + i.toNat) []).tail.tail.headD AV.any))).pte == 0#64 && true)))))
           none
 (cond (!(v_wk n d (asU64 ((da.getD (0 + i.toNat) []).headD AV.any)) (asU64 ((da.getD (0 + i.toNat) []).tail.headD AV.any)) (1#64 + v_kit_Pick (asI64 ((da.getD (0 + i.toNat) []).tail.tail.tail.headD AV.any)) 3#64) (asI64 (([[AV.int IntKind.i64 0#64], [AV.int IntKind.i64 1#64]].getD (0 + (v_kit_Pick (asI64 ((da.getD (0 + i.toNat) []).tail.tail.tail.tail.headD AV.any)) 2#64).toNat) []).headD AV.any)) (asU64 ((da.getD (0 + i.toNat) []).tail.tail.headD AV.any))).why == (v_wk nx dx (asU64 ((da.getD (0 + i.toNat) []).headD AV.any)) (asU64 ((da.getD (0 + i.toNat) []).tail.headD AV.any)) (1#64 + v_kit_Pick (asI64 ((da.getD (0 + i.toNat) []).tail.tail.tail.headD AV.any)) 3#64) (asI64 (([[AV.int IntKind.i64 0#64], [AV.int IntKind.i64 1#64]].getD (0 + (v_kit_Pick (asI64 ((da.getD (0 + i.toNat) []).tail.tail.tail.tail.headD AV.any)) 2#64).toNat) []).headD AV.any)) (asU64 ((da.getD (0 + i.toNat) []).tail.tail.headD AV.any))).why)
            none
 (cond (!BitVec.ofNat 64 (v_wkN (v_wk n d (asU64 ((da.getD (0 + i.toNat) []).headD AV.any)) (asU64 ((da.getD (0 + i.toNat) []).tail.headD AV.any)) (1#64 + v_kit_Pick (asI64 ((da.getD (0 + i.toNat) []).tail.tail.tail.headD AV.any)) 3#64) (asI64 (([[AV.int IntKind.i64 0#64], [AV.int IntKind.i64 1#64]].getD (0 + (v_kit_Pick (asI64 ((da.getD (0 + i.toNat) []).tail.tail.tail.tail.headD AV.any)) 2#64).toNat) []).headD AV.any)) (asU64 ((da.getD (0 + i.toNat) []).tail.tail.headD AV.any)))) == 0#64)
             none
 (cond ((0#64).slt (BitVec.ofNat 64 (v_wkN (v_wk n d (asU64 ((da.getD (0 + i.toNat) []).headD AV.any)) (asU64 ((da.getD (0 + i.toNat) []).tail.headD AV.any)) (1#64 + v_kit_Pick (asI64 ((da.getD (0 + i.toNat) []).tail.tail.tail.headD AV.any)) 3#64) (asI64 (([[AV.int IntKind.i64 0#64], [AV.int IntKind.i64 1#64]].getD (0 + (v_kit_Pick (asI64 ((da.getD (0 + i.toNat) []).tail.tail.tail.tail.headD AV.any)) 2#64).toNat) []).headD AV.any)) (asU64 ((da.getD (0 + i.toNat) []).tail.tail.headD AV.any))))))
 (cond (true && decide (0 < v_wkN (v_wk n d (asU64 ((da.getD (0 + i.toNat) []).headD AV.any)) (asU64 ((da.getD (0 + i.toNat) []).tail.headD AV.any)) (1#64 + v_kit_Pick (asI64 ((da.getD (0 + i.toNat) []).tail.tail.tail.headD AV.any)) 3#64) (asI64 (([[AV.int IntKind.i64 0#64], [AV.int IntKind.i64 1#64]].getD (0 + (v_kit_Pick (asI64 ((da.getD (0 + i.toNat) []).tail.tail.tail.tail.headD AV.any)) 2#64).toNat) []).headD AV.any)) (asU64 ((da.getD (0 + i.toNat) []).tail.tail.headD AV.any)))))
 (cond (decide (0 < v_wkN (v_wk n d (asU64 ((da.getD (0 + i.toNat) []).headD AV.any)) (asU64 ((da.getD (0 + i.toNat) []).tail.headD AV.any)) (1#64 + v_kit_Pick (asI64 ((da.getD (0 + i.toNat) []).tail.tail.tail.headD AV.any)) 3#64) (asI64 (([[AV.int IntKind.i64 0#64], [AV.int IntKind.i64 1#64]].getD (0 + (v_kit_Pick (asI64 ((da.getD (0 + i.toNat) []).tail.tail.tail.tail.headD AV.any)) 2#64).toNat) []).headD AV.any)) (asU64 ((da.getD (0 + i.toNat) []).tail.tail.headD AV.any)))))
                none
                none)
               none)
 (cond (g_qs (v_wkN (v_wk n d (asU64 ((da.getD (0 + i.toNat) []).headD AV.any)) (asU64 ((da.getD (0 + i.toNat) []).tail.headD AV.any)) (1#64 + v_kit_Pick (asI64 ((da.getD (0 + i.toNat) []).tail.tail.tail.headD AV.any)) 3#64) (asI64 (([[AV.int IntKind.i64 0#64], [AV.int IntKind.i64 1#64]].getD (0 + (v_kit_Pick (asI64 ((da.getD (0 + i.toNat) []).tail.tail.tail.tail.headD AV.any)) 2#64).toNat) []).headD AV.any)) (asU64 ((da.getD (0 + i.toNat) []).tail.tail.headD AV.any)))) (v_wkG (asU64 ((da.getD (0 + i.toNat) []).tail.headD AV.any)) (v_wk n d (asU64 ((da.getD (0 + i.toNat) []).headD AV.any)) (asU64 ((da.getD (0 + i.toNat) []).tail.headD AV.any)) (1#64 + v_kit_Pick (asI64 ((da.getD (0 + i.toNat) []).tail.tail.tail.headD AV.any)) 3#64) (asI64 (([[AV.int IntKind.i64 0#64], [AV.int IntKind.i64 1#64]].getD (0 + (v_kit_Pick (asI64 ((da.getD (0 + i.toNat) []).tail.tail.tail.tail.headD AV.any)) 2#64).toNat) []).headD AV.any)) (asU64 ((da.getD (0 + i.toNat) []).tail.tail.headD AV.any)))) (v_wkN (v_wk n d (asU64 ((da.getD (0 + i.toNat) []).headD AV.any)) (asU64 ((da.getD (0 + i.toNat) []).tail.headD AV.any)) (1#64 + v_kit_Pick (asI64 ((da.getD (0 + i.toNat) []).tail.tail.tail.headD AV.any)) 3#64) (asI64 (([[AV.int IntKind.i64 0#64], [AV.int IntKind.i64 1#64]].getD (0 + (v_kit_Pick (asI64 ((da.getD (0 + i.toNat) []).tail.tail.tail.tail.headD AV.any)) 2#64).toNat) []).headD AV.any)) (asU64 ((da.getD (0 + i.toNat) []).tail.tail.headD AV.any)))) 0#64)
 (some (Sum.inl (MwwS.a rw na ma da n (v_wkT n tg (v_wk n d (asU64 ((da.getD (0 + i.toNat) []).headD AV.any)) (asU64 ((da.getD (0 + i.toNat) []).tail.headD AV.any)) (1#64 + v_kit_Pick (asI64 ((da.getD (0 + i.toNat) []).tail.tail.tail.headD AV.any)) 3#64) (asI64 (([[AV.int IntKind.i64 0#64], [AV.int IntKind.i64 1#64]].getD (0 + (v_kit_Pick (asI64 ((da.getD (0 + i.toNat) []).tail.tail.tail.tail.headD AV.any)) 2#64).toNat) []).headD AV.any)) (asU64 ((da.getD (0 + i.toNat) []).tail.tail.headD AV.any)))) m (v_wkD n d (v_wk n d (asU64 ((da.getD (0 + i.toNat) []).headD AV.any)) (asU64 ((da.getD (0 + i.toNat) []).tail.headD AV.any)) (1#64 + v_kit_Pick (asI64 ((da.getD (0 + i.toNat) []).tail.tail.tail.headD AV.any)) 3#64) (asI64 (([[AV.int IntKind.i64 0#64], [AV.int IntKind.i64 1#64]].getD (0 + (v_kit_Pick (asI64 ((da.getD (0 + i.toNat) []).tail.tail.tail.tail.headD AV.any)) 2#64).toNat) []).headD AV.any)) (asU64 ((da.getD (0 + i.toNat) []).tail.tail.headD AV.any)))) c0 c1 c2 pr p1 p2 en th q u1 u2 u3 w nx t mx dx mt T a0 a1 a2 xl xt xe xo xw (i + 1#64))))
               none)))))
 (cond (!((v_wk n d (asU64 ((da.getD (0 + i.toNat) []).headD AV.any)) (asU64 ((da.getD (0 + i.toNat) []).tail.headD AV.any)) (1#64 + v_kit_Pick (asI64 ((da.getD (0 + i.toNat) []).tail.tail.tail.headD AV.any)) 3#64) (asI64 (([[AV.int IntKind.i64 0#64], [AV.int IntKind.i64 1#64]].getD (0 + (v_kit_Pick (asI64 ((da.getD (0 + i.toNat) []).tail.tail.tail.tail.headD AV.any)) 2#64).toNat) []).headD AV.any)) (asU64 ((da.getD (0 + i.toNat) []).tail.tail.headD AV.any))).asid == (v_wk nx dx (asU64 ((da.getD (0 + i.toNat) []).headD AV.any)) (asU64 ((da.getD (0 + i.toNat) []).tail.headD AV.any)) (1#64 + v_kit_Pick (asI64 ((da.getD (0 + i.toNat) []).tail.tail.tail.headD AV.any)) 3#64) (asI64 (([[AV.int IntKind.i64 0#64], [AV.int IntKind.i64 1#64]].getD (0 + (v_kit_Pick (asI64 ((da.getD (0 + i.toNat) []).tail.tail.tail.tail.headD AV.any)) 2#64).toNat) []).headD AV.any)) (asU64 ((da.getD (0 + i.toNat) []).tail.tail.headD AV.any))).asid && ((v_wk n d (asU64 ((da.getD (0 + i.toNat) []).headD AV.any)) (asU64 ((da.getD (0 + i.toNat) []).tail.headD AV.any)) (1#64 + v_kit_Pick (asI64 ((da.getD (0 + i.toNat) []).tail.tail.tail.headD AV.any)) 3#64) (asI64 (([[AV.int IntKind.i64 0#64], [AV.int IntKind.i64 1#64]].getD (0 + (v_kit_Pick (asI64 ((da.getD (0 + i.toNat) []).tail.tail.tail.tail.headD AV.any)) 2#64).toNat) []).headD AV.any)) (asU64 ((da.getD (0 + i.toNat) []).tail.tail.headD AV.any))).lev == (v_wk nx dx (asU64 ((da.getD (0 + i.toNat) []).headD AV.any)) (asU64 ((da.getD (0 + i.toNat) []).tail.headD AV.any)) (1#64 + v_kit_Pick (asI64 ((da.getD (0 + i.toNat) []).tail.tail.tail.headD AV.any)) 3#64) (asI64 (([[AV.int IntKind.i64 0#64], [AV.int IntKind.i64 1#64]].getD (0 + (v_kit_Pick (asI64 ((da.getD (0 + i.toNat) []).tail.tail.tail.tail.headD AV.any)) 2#64).toNat) []).headD AV.any)) (asU64 ((da.getD (0 + i.toNat) []).tail.tail.headD AV.any))).lev && ((v_wk n d (asU64 ((da.getD (0 + i.toNat) []).headD AV.any)) (asU64 ((da.getD (0 + i.toNat) []).tail.headD AV.any)) (1#64 + v_kit_Pick (asI64 ((da.getD (0 + i.toNat) []).tail.tail.tail.headD AV.any)) 3#64) (asI64 (([[AV.int IntKind.i64 0#64], [AV.int IntKind.i64 1#64]].getD (0 + (v_kit_Pick (asI64 ((da.getD (0 + i.toNat) []).tail.tail.tail.tail.headD AV.any)) 2#64).toNat) []).headD AV.any)) (asU64 ((da.getD (0 + i.toNat) []).tail.tail.headD AV.any))).page == (v_wk nx dx (asU64 ((da.getD (0 + i.toNat) []).headD AV.any)) (asU64 ((da.getD (0 + i.toNat) []).tail.headD AV.any)) (1#64 + v_kit_Pick (asI64 ((da.getD (0 + i.toNat) []).tail.tail.tail.headD AV.any)) 3#64) (asI64 (([[AV.int IntKind.i64 0#64], [AV.int IntKind.i64 1#64]].getD (0 + (v_kit_Pick (asI64 ((da.getD (0 + i.toNat) []).tail.tail.tail.tail.headD AV.any)) 2#64).toNat) []).headD AV.any)) (asU64 ((da.getD (0 + i.toNat) []).tail.tail.headD AV.any))).page && ((v_wk n d (asU64 ((da.getD (0 + i.toNat) []).headD AV.any)) (asU64 ((da.getD (0 + i.toNat) []).tail.headD AV.any)) (1#64 + v_kit_Pick (asI64 ((da.getD (0 + i.toNat) []).tail.tail.tail.headD AV.any)) 3#64) (asI64 (([[AV.int IntKind.i64 0#64], [AV.int IntKind.i64 1#64]].getD (0 + (v_kit_Pick (asI64 ((da.getD (0 + i.toNat) []).tail.tail.tail.tail.headD AV.any)) 2#64).toNat) []).headD AV.any)) (asU64 ((da.getD (0 + i.toNat) []).tail.tail.headD AV.any))).pte == (v_wk nx dx (asU64 ((da.getD (0 + i.toNat) []).headD AV.any)) (asU64 ((da.getD (0 + i.toNat) []).tail.headD AV.any)) (1#64 + v_kit_Pick (asI64 ((da.getD (0 + i.toNat) []).tail.tail.tail.headD AV.any)) 3#64) (asI64 (([[AV.int IntKind.i64 0#64], [AV.int IntKind.i64 1#64]].getD (0 + (v_kit_Pick (asI64 ((da.getD (0 + i.toNat) []).tail.tail.tail.tail.headD AV.any)) 2#64).toNat) []).headD AV.any)) (asU64 ((da.getD (0 + i.toNat) []).tail.tail.headD AV.any))).pte && true)))))
           none
 (cond (!(v_wk n d (asU64 ((da.getD (0 + i.toNat) []).headD AV.any)) (asU64 ((da.getD (0 + i.toNat) []).tail.headD AV.any)) (1#64 + v_kit_Pick (asI64 ((da.getD (0 + i.toNat) []).tail.tail.tail.headD AV.any)) 3#64) (asI64 (([[AV.int IntKind.i64 0#64], [AV.int IntKind.i64 1#64]].getD (0 + (v_kit_Pick (asI64 ((da.getD (0 + i.toNat) []).tail.tail.tail.tail.headD AV.any)) 2#64).toNat) []).headD AV.any)) (asU64 ((da.getD (0 + i.toNat) []).tail.tail.headD AV.any))).why == (v_wk nx dx (asU64 ((da.getD (0 + i.toNat) []).headD AV.any)) (asU64 ((da.getD (0 + i.toNat) []).tail.headD AV.any)) (1#64 + v_kit_Pick (asI64 ((da.getD (0 + i.toNat) []).tail.tail.tail.headD AV.any)) 3#64) (asI64 (([[AV.int IntKind.i64 0#64], [AV.int IntKind.i64 1#64]].getD (0 + (v_kit_Pick (asI64 ((da.getD (0 + i.toNat) []).tail.tail.tail.tail.headD AV.any)) 2#64).toNat) []).headD AV.any)) (asU64 ((da.getD (0 + i.toNat) []).tail.tail.headD AV.any))).why)
            none
 (cond (!BitVec.ofNat 64 (v_wkN (v_wk n d (asU64 ((da.getD (0 + i.toNat) []).headD AV.any)) (asU64 ((da.getD (0 + i.toNat) []).tail.headD AV.any)) (1#64 + v_kit_Pick (asI64 ((da.getD (0 + i.toNat) []).tail.tail.tail.headD AV.any)) 3#64) (asI64 (([[AV.int IntKind.i64 0#64], [AV.int IntKind.i64 1#64]].getD (0 + (v_kit_Pick (asI64 ((da.getD (0 + i.toNat) []).tail.tail.tail.tail.headD AV.any)) 2#64).toNat) []).headD AV.any)) (asU64 ((da.getD (0 + i.toNat) []).tail.tail.headD AV.any)))) == BitVec.ofNat 64 (v_wkN (v_wk nx dx (asU64 ((da.getD (0 + i.toNat) []).headD AV.any)) (asU64 ((da.getD (0 + i.toNat) []).tail.headD AV.any)) (1#64 + v_kit_Pick (asI64 ((da.getD (0 + i.toNat) []).tail.tail.tail.headD AV.any)) 3#64) (asI64 (([[AV.int IntKind.i64 0#64], [AV.int IntKind.i64 1#64]].getD (0 + (v_kit_Pick (asI64 ((da.getD (0 + i.toNat) []).tail.tail.tail.tail.headD AV.any)) 2#64).toNat) []).headD AV.any)) (asU64 ((da.getD (0 + i.toNat) []).tail.tail.headD AV.any)))))
             none
 (cond (g_qa (v_wkN (v_wk n d (asU64 ((da.getD (0 + i.toNat) []).headD AV.any)) (asU64 ((da.getD (0 + i.toNat) []).tail.headD AV.any)) (1#64 + v_kit_Pick (asI64 ((da.getD (0 + i.toNat) []).tail.tail.tail.headD AV.any)) 3#64) (asI64 (([[AV.int IntKind.i64 0#64], [AV.int IntKind.i64 1#64]].getD (0 + (v_kit_Pick (asI64 ((da.getD (0 + i.toNat) []).tail.tail.tail.tail.headD AV.any)) 2#64).toNat) []).headD AV.any)) (asU64 ((da.getD (0 + i.toNat) []).tail.tail.headD AV.any)))) (v_wkG (asU64 ((da.getD (0 + i.toNat) []).tail.headD AV.any)) (v_wk n d (asU64 ((da.getD (0 + i.toNat) []).headD AV.any)) (asU64 ((da.getD (0 + i.toNat) []).tail.headD AV.any)) (1#64 + v_kit_Pick (asI64 ((da.getD (0 + i.toNat) []).tail.tail.tail.headD AV.any)) 3#64) (asI64 (([[AV.int IntKind.i64 0#64], [AV.int IntKind.i64 1#64]].getD (0 + (v_kit_Pick (asI64 ((da.getD (0 + i.toNat) []).tail.tail.tail.tail.headD AV.any)) 2#64).toNat) []).headD AV.any)) (asU64 ((da.getD (0 + i.toNat) []).tail.tail.headD AV.any)))) (v_wkN (v_wk nx dx (asU64 ((da.getD (0 + i.toNat) []).headD AV.any)) (asU64 ((da.getD (0 + i.toNat) []).tail.headD AV.any)) (1#64 + v_kit_Pick (asI64 ((da.getD (0 + i.toNat) []).tail.tail.tail.headD AV.any)) 3#64) (asI64 (([[AV.int IntKind.i64 0#64], [AV.int IntKind.i64 1#64]].getD (0 + (v_kit_Pick (asI64 ((da.getD (0 + i.toNat) []).tail.tail.tail.tail.headD AV.any)) 2#64).toNat) []).headD AV.any)) (asU64 ((da.getD (0 + i.toNat) []).tail.tail.headD AV.any)))) (v_wkG (asU64 ((da.getD (0 + i.toNat) []).tail.headD AV.any)) (v_wk nx dx (asU64 ((da.getD (0 + i.toNat) []).headD AV.any)) (asU64 ((da.getD (0 + i.toNat) []).tail.headD AV.any)) (1#64 + v_kit_Pick (asI64 ((da.getD (0 + i.toNat) []).tail.tail.tail.headD AV.any)) 3#64) (asI64 (([[AV.int IntKind.i64 0#64], [AV.int IntKind.i64 1#64]].getD (0 + (v_kit_Pick (asI64 ((da.getD (0 + i.toNat) []).tail.tail.tail.tail.headD AV.any)) 2#64).toNat) []).headD AV.any)) (asU64 ((da.getD (0 + i.toNat) []).tail.tail.headD AV.any)))) (v_wkN (v_wk n d (asU64 ((da.getD (0 + i.toNat) []).headD AV.any)) (asU64 ((da.getD (0 + i.toNat) []).tail.headD AV.any)) (1#64 + v_kit_Pick (asI64 ((da.getD (0 + i.toNat) []).tail.tail.tail.headD AV.any)) 3#64) (asI64 (([[AV.int IntKind.i64 0#64], [AV.int IntKind.i64 1#64]].getD (0 + (v_kit_Pick (asI64 ((da.getD (0 + i.toNat) []).tail.tail.tail.tail.headD AV.any)) 2#64).toNat) []).headD AV.any)) (asU64 ((da.getD (0 + i.toNat) []).tail.tail.headD AV.any)))) (v_wkN (v_wk nx dx (asU64 ((da.getD (0 + i.toNat) []).headD AV.any)) (asU64 ((da.getD (0 + i.toNat) []).tail.headD AV.any)) (1#64 + v_kit_Pick (asI64 ((da.getD (0 + i.toNat) []).tail.tail.tail.headD AV.any)) 3#64) (asI64 (([[AV.int IntKind.i64 0#64], [AV.int IntKind.i64 1#64]].getD (0 + (v_kit_Pick (asI64 ((da.getD (0 + i.toNat) []).tail.tail.tail.tail.headD AV.any)) 2#64).toNat) []).headD AV.any)) (asU64 ((da.getD (0 + i.toNat) []).tail.tail.headD AV.any)))) 0#64)
 (cond (g_qs (v_wkN (v_wk n d (asU64 ((da.getD (0 + i.toNat) []).headD AV.any)) (asU64 ((da.getD (0 + i.toNat) []).tail.headD AV.any)) (1#64 + v_kit_Pick (asI64 ((da.getD (0 + i.toNat) []).tail.tail.tail.headD AV.any)) 3#64) (asI64 (([[AV.int IntKind.i64 0#64], [AV.int IntKind.i64 1#64]].getD (0 + (v_kit_Pick (asI64 ((da.getD (0 + i.toNat) []).tail.tail.tail.tail.headD AV.any)) 2#64).toNat) []).headD AV.any)) (asU64 ((da.getD (0 + i.toNat) []).tail.tail.headD AV.any)))) (v_wkG (asU64 ((da.getD (0 + i.toNat) []).tail.headD AV.any)) (v_wk n d (asU64 ((da.getD (0 + i.toNat) []).headD AV.any)) (asU64 ((da.getD (0 + i.toNat) []).tail.headD AV.any)) (1#64 + v_kit_Pick (asI64 ((da.getD (0 + i.toNat) []).tail.tail.tail.headD AV.any)) 3#64) (asI64 (([[AV.int IntKind.i64 0#64], [AV.int IntKind.i64 1#64]].getD (0 + (v_kit_Pick (asI64 ((da.getD (0 + i.toNat) []).tail.tail.tail.tail.headD AV.any)) 2#64).toNat) []).headD AV.any)) (asU64 ((da.getD (0 + i.toNat) []).tail.tail.headD AV.any)))) (v_wkN (v_wk n d (asU64 ((da.getD (0 + i.toNat) []).headD AV.any)) (asU64 ((da.getD (0 + i.toNat) []).tail.headD AV.any)) (1#64 + v_kit_Pick (asI64 ((da.getD (0 + i.toNat) []).tail.tail.tail.headD AV.any)) 3#64) (asI64 (([[AV.int IntKind.i64 0#64], [AV.int IntKind.i64 1#64]].getD (0 + (v_kit_Pick (asI64 ((da.getD (0 + i.toNat) []).tail.tail.tail.tail.headD AV.any)) 2#64).toNat) []).headD AV.any)) (asU64 ((da.getD (0 + i.toNat) []).tail.tail.headD AV.any)))) 0#64)
 (some (Sum.inl (MwwS.a rw na ma da n (v_wkT n tg (v_wk n d (asU64 ((da.getD (0 + i.toNat) []).headD AV.any)) (asU64 ((da.getD (0 + i.toNat) []).tail.headD AV.any)) (1#64 + v_kit_Pick (asI64 ((da.getD (0 + i.toNat) []).tail.tail.tail.headD AV.any)) 3#64) (asI64 (([[AV.int IntKind.i64 0#64], [AV.int IntKind.i64 1#64]].getD (0 + (v_kit_Pick (asI64 ((da.getD (0 + i.toNat) []).tail.tail.tail.tail.headD AV.any)) 2#64).toNat) []).headD AV.any)) (asU64 ((da.getD (0 + i.toNat) []).tail.tail.headD AV.any)))) m (v_wkD n d (v_wk n d (asU64 ((da.getD (0 + i.toNat) []).headD AV.any)) (asU64 ((da.getD (0 + i.toNat) []).tail.headD AV.any)) (1#64 + v_kit_Pick (asI64 ((da.getD (0 + i.toNat) []).tail.tail.tail.headD AV.any)) 3#64) (asI64 (([[AV.int IntKind.i64 0#64], [AV.int IntKind.i64 1#64]].getD (0 + (v_kit_Pick (asI64 ((da.getD (0 + i.toNat) []).tail.tail.tail.tail.headD AV.any)) 2#64).toNat) []).headD AV.any)) (asU64 ((da.getD (0 + i.toNat) []).tail.tail.headD AV.any)))) c0 c1 c2 pr p1 p2 en th q u1 u2 u3 w nx t mx (v_wkD nx dx (v_wk nx dx (asU64 ((da.getD (0 + i.toNat) []).headD AV.any)) (asU64 ((da.getD (0 + i.toNat) []).tail.headD AV.any)) (1#64 + v_kit_Pick (asI64 ((da.getD (0 + i.toNat) []).tail.tail.tail.headD AV.any)) 3#64) (asI64 (([[AV.int IntKind.i64 0#64], [AV.int IntKind.i64 1#64]].getD (0 + (v_kit_Pick (asI64 ((da.getD (0 + i.toNat) []).tail.tail.tail.tail.headD AV.any)) 2#64).toNat) []).headD AV.any)) (asU64 ((da.getD (0 + i.toNat) []).tail.tail.headD AV.any)))) mt (v_wkX nx T (v_wk nx dx (asU64 ((da.getD (0 + i.toNat) []).headD AV.any)) (asU64 ((da.getD (0 + i.toNat) []).tail.headD AV.any)) (1#64 + v_kit_Pick (asI64 ((da.getD (0 + i.toNat) []).tail.tail.tail.headD AV.any)) 3#64) (asI64 (([[AV.int IntKind.i64 0#64], [AV.int IntKind.i64 1#64]].getD (0 + (v_kit_Pick (asI64 ((da.getD (0 + i.toNat) []).tail.tail.tail.tail.headD AV.any)) 2#64).toNat) []).headD AV.any)) (asU64 ((da.getD (0 + i.toNat) []).tail.tail.headD AV.any)))) a0 a1 a2 xl xt xe xo xw (i + 1#64))))
               none)
              none)))))
         none))
       none)
      none)
     none)
    none)
   none)
 (some (Sum.inr (MwwE.fine n tg m d nx t mx dx mt T bus2 { rw := true, segs := [Seg.cell (AV.int IntKind.u64 c0), Seg.cell (AV.int IntKind.u64 c1), Seg.cell (AV.int IntKind.u64 c2)] } { rw := true, segs := [Seg.arr [CK.int IntKind.u32] 32 pr, Seg.cell (AV.int IntKind.u32 p1), Seg.cell (AV.int IntKind.u32 p2), Seg.arr [CK.int IntKind.u32] 2 en, Seg.arr [CK.int IntKind.u32] 2 th] } { rw := true, segs := [Seg.arr [CK.int IntKind.u8] 16 q, Seg.cell (AV.int IntKind.i64 u1), Seg.cell (AV.int IntKind.i64 u2), Seg.cell (AV.bool u3), Seg.cell AV.nilslice] } { rw := true, segs := [Seg.cell (AV.bool w)] } xbus9 { rw := true, segs := [Seg.cell (AV.int IntKind.u64 a0), Seg.cell (AV.int IntKind.u64 a1), Seg.cell (AV.bool a2)] } { rw := true, segs := [Seg.arr [CK.int IntKind.i64, CK.bool, CK.bool, CK.bool, CK.bool] 32 xl, Seg.arr [CK.int IntKind.i64] 2 xt] } { rw := true, segs := [Seg.cell AV.nilslice, Seg.cell (AV.bool xe), Seg.cell (AV.int IntKind.i64 xo)] } { rw := true, segs := [Seg.cell (AV.bool xw)] }))))
 (some (Sum.inr (MwwE.fine n tg m d nx t mx dx mt T bus2 { rw := true, segs := [Seg.cell (AV.int IntKind.u64 c0), Seg.cell (AV.int IntKind.u64 c1), Seg.cell (AV.int IntKind.u64 c2)] } { rw := true, segs := [Seg.arr [CK.int IntKind.u32] 32 pr, Seg.cell (AV.int IntKind.u32 p1), Seg.cell (AV.int IntKind.u32 p2), Seg.arr [CK.int IntKind.u32] 2 en, Seg.arr [CK.int IntKind.u32] 2 th] } { rw := true, segs := [Seg.arr [CK.int IntKind.u8] 16 q, Seg.cell (AV.int IntKind.i64 u1), Seg.cell (AV.int IntKind.i64 u2), Seg.cell (AV.bool u3), Seg.cell AV.nilslice] } { rw := true, segs := [Seg.cell (AV.bool w)] } xbus9 { rw := true, segs := [Seg.cell (AV.int IntKind.u64 a0), Seg.cell (AV.int IntKind.u64 a1), Seg.cell (AV.bool a2)] } { rw := true, segs := [Seg.arr [CK.int IntKind.i64, CK.bool, CK.bool, CK.bool, CK.bool] 32 xl, Seg.arr [CK.int IntKind.i64] 2 xt] } { rw := true, segs := [Seg.cell AV.nilslice, Seg.cell (AV.bool xe), Seg.cell (AV.int IntKind.i64 xo)] } { rw := true, segs := [Seg.cell (AV.bool xw)] }))))
 | .z n tg m d c0 c1 c2 pr p1 p2 en th q u1 u2 u3 w nx t mx dx mt T a0 a1 a2 xl xt xe xo xw i =>
 (cond (i.slt 0#64)
 (cond (i.slt 20#64)
  none
 (some (Sum.inr (MwwE.fine n tg m d nx t mx dx mt T bus2 { rw := true, segs := [Seg.cell (AV.int IntKind.u64 c0), Seg.cell (AV.int IntKind.u64 c1), Seg.cell (AV.int IntKind.u64 c2)] } { rw := true, segs := [Seg.arr [CK.int IntKind.u32] 32 pr, Seg.cell (AV.int IntKind.u32 p1), Seg.cell (AV.int IntKind.u32 p2), Seg.arr [CK.int IntKind.u32] 2 en, Seg.arr [CK.int IntKind.u32] 2 th] } { rw := true, segs := [Seg.arr [CK.int IntKind.u8] 16 q, Seg.cell (AV.int IntKind.i64 u1), Seg.cell (AV.int IntKind.i64 u2), Seg.cell (AV.bool u3), Seg.cell AV.nilslice] } { rw := true, segs := [Seg.cell (AV.bool w)] } xbus9 { rw := true, segs := [Seg.cell (AV.int IntKind.u64 a0), Seg.cell (AV.int IntKind.u64 a1), Seg.cell (AV.bool a2)] } { rw := true, segs := [Seg.arr [CK.int IntKind.i64, CK.bool, CK.bool, CK.bool, CK.bool] 32 xl, Seg.arr [CK.int IntKind.i64] 2 xt] } { rw := true, segs := [Seg.cell AV.nilslice, Seg.cell (AV.bool xe), Seg.cell (AV.int IntKind.i64 xo)] } { rw := true, segs := [Seg.cell (AV.bool xw)] }))))
 (some (Sum.inr (MwwE.fine n tg m d nx t mx dx mt T bus2 { rw := true, segs := [Seg.cell (AV.int IntKind.u64 c0), Seg.cell (AV.int IntKind.u64 c1), Seg.cell (AV.int IntKind.u64 c2)] } { rw := true, segs := [Seg.arr [CK.int IntKind.u32] 32 pr, Seg.cell (AV.int IntKind.u32 p1), Seg.cell (AV.int IntKind.u32 p2), Seg.arr [CK.int IntKind.u32] 2 en, Seg.arr [CK.int IntKind.u32] 2 th] } { rw := true, segs := [Seg.arr [CK.int IntKind.u8] 16 q, Seg.cell (AV.int IntKind.i64 u1), Seg.cell (AV.int IntKind.i64 u2), Seg.cell (AV.bool u3), Seg.cell AV.nilslice] } { rw := true, segs := [Seg.cell (AV.bool w)] } xbus9 { rw := true, segs := [Seg.cell (AV.int IntKind.u64 a0), Seg.cell (AV.int IntKind.u64 a1), Seg.cell (AV.bool a2)] } { rw := true, segs := [Seg.arr [CK.int IntKind.i64, CK.bool, CK.bool, CK.bool, CK.bool] 32 xl, Seg.arr [CK.int IntKind.i64] 2 xt] } { rw := true, segs := [Seg.cell AV.nilslice, Seg.cell (AV.bool xe), Seg.cell (AV.int IntKind.i64 xo)] } { rw := true, segs := [Seg.cell (AV.bool xw)] }))))
end Go.Sx

/- WalkWalks: ask by ask. -/
namespace Go.Sx
open Go
theorem wkLeafA (satp va kind priv mst p lev mask a : BitVec 64) (A : List (BitVec 64)) : (wkLeaf satp va kind priv mst p lev mask a A).A = A := by
  unfold wkLeaf
  cases v_pte_May p kind priv mst <;> rfl
theorem wkA_len (n : Nat) (d : List (List AV)) (satp va kind priv mst : BitVec 64) : (v_wk n d satp va kind priv mst).A.length ≤ 3 := by
  unfold v_wk
  cases wkBad va with
  | true => simp [wkNo]
  | false =>
  rw [cond_false]
  unfold wk2
  cases wkIn n (wkAt satp va 30) with
  | false => simp [wkNo]
  | true =>
  rw [cond_true]
  cases v_pte_Right (wkRd n d (wkAt satp va 30)) 2#64 with
  | false => simp [wkNo]
  | true =>
  rw [cond_true]
  cases v_pte_Leaf (wkRd n d (wkAt satp va 30)) with
  | true => rw [cond_true, wkLeafA]; simp
  | false =>
  rw [cond_false]
  unfold wk1
  generalize wkRd n d (wkAt satp va 30) = P2
  cases wkIn n (wkAt (P2 >>> 10) va 21) with
  | false => simp [wkNo]
  | true =>
  rw [cond_true]
  cases v_pte_Right (wkRd n d (wkAt (P2 >>> 10) va 21)) 1#64 with
  | false => simp [wkNo]
  | true =>
  rw [cond_true]
  cases v_pte_Leaf (wkRd n d (wkAt (P2 >>> 10) va 21)) with
  | true => rw [cond_true, wkLeafA]; simp
  | false =>
  rw [cond_false]
  unfold wk0
  generalize wkRd n d (wkAt (P2 >>> 10) va 21) = P1
  cases wkIn n (wkAt (P1 >>> 10) va 12) with
  | false => simp [wkNo]
  | true =>
  rw [cond_true]
  cases v_pte_Right (wkRd n d (wkAt (P1 >>> 10) va 12)) 0#64 with
  | false => simp [wkNo]
  | true =>
  rw [cond_true]
  cases v_pte_Leaf (wkRd n d (wkAt (P1 >>> 10) va 12)) with
  | true => rw [cond_true, wkLeafA]; simp
  | false => simp [wkNo]
theorem wkN_le {W : Wk} (h : W.A.length ≤ 3) : v_wkN W ≤ 4 := by
  unfold v_wkN v_wkL
  cases W.wr with
  | true => rw [cond_true, List.length_append]; simp; exact h
  | false => rw [cond_false]; omega
theorem qa_self {g : List (List AV)} {k : Nat} (h : k < 2 ^ 63) : g_qa k g k g k k 0#64 = true := by
  unfold g_qa
  rw [show Nat.beq k k = true from beq_true.2 rfl, show Nat.ble k k = true from Nat.ble_eq_true_of_le (Nat.le_refl _), show Nat.blt k 9223372036854775808 = true from Nat.ble_eq_true_of_le h]
  simp only [acEq_self, Bool.true_and, beq_self_eq_true, Bool.and_true, List.all_eq_true]
  intro _ _; trivial
theorem qs_self {va : BitVec 64} {W : Wk} (h : v_wkN W < 2 ^ 63) : g_qs (v_wkN W) (v_wkG va W) (v_wkN W) 0#64 = true := by
  unfold g_qs
  rw [show (v_wkG va W).length = v_wkN W by unfold v_wkG v_wkN; rw [List.length_map], show Nat.ble (v_wkN W) (v_wkN W) = true from Nat.ble_eq_true_of_le (Nat.le_refl _), show Nat.blt (v_wkN W) 9223372036854775808 = true from Nat.ble_eq_true_of_le h]
  rfl
theorem Mem.wk {n : Nat} {tg d : List (List AV)} {t : Nat} {T : List (List AV)} (h : Mem n tg d t T) (W : Wk) : Mem n (v_wkT n tg W) (v_wkD n d W) t (v_wkX n T W) := by
  unfold v_wkT v_wkD v_wkX
  cases W.wr with
  | true => exact h.store _ _ _
  | false => exact h
theorem Mem.rmw {n : Nat} {tg d : List (List AV)} {t : Nat} {T : List (List AV)} (h : Mem n tg d t T) : g_rmw n tg n d = true := by
  unfold g_rmw
  rw [h.ram, h.lg]; rfl
theorem Mem.xrw {n : Nat} {tg d : List (List AV)} {t : Nat} {T : List (List AV)} (h : Mem n tg d t T) : g_xrw n t n d t T = true := by
  unfold g_xrw
  rw [h.xram, h.lT, show Nat.beq t t = true from beq_true.2 rfl]; rfl
theorem priv_ok3 (a : BitVec 64) : (nonneg IntKind.i64 (v_kit_Pick a 2#64) && decide ((v_kit_Pick a 2#64).toNat < 2)) = true ∧ decide (0 + (v_kit_Pick a 2#64).toNat < 2) = true := by
  have h := pickLt a 2#64 (by decide) (by decide)
  rw [show (2#64).toNat = 2 from rfl] at h
  refine ⟨?_, decide_eq_true (by omega)⟩
  rw [nonneg_lt (by omega), decide_eq_true h]; rfl
def wwW (n : Nat) (d : List (List AV)) (r : List AV) : Wk := v_wk n d (asU64 (r.headD AV.any)) (asU64 (r.tail.headD AV.any)) (1#64 + v_kit_Pick (asI64 (r.tail.tail.tail.headD AV.any)) 3#64) (asI64 (([[AV.int IntKind.i64 0#64], [AV.int IntKind.i64 1#64]].getD (0 + (v_kit_Pick (asI64 (r.tail.tail.tail.tail.headD AV.any)) 2#64).toNat) []).headD AV.any)) (asU64 (r.tail.tail.headD AV.any))
/-- Memory, and the document's tags. -/
structure MwwF where
  tg : List (List AV)
  d : List (List AV)
  T : List (List AV)
def wwS (n : Nat) (s : MwwF) (r : List AV) : MwwF := cond (v_wkE (wwW n s.d r)) s ⟨v_wkT n s.tg (wwW n s.d r), v_wkD n s.d (wwW n s.d r), v_wkX n s.T (wwW n s.d r)⟩
def v_ww (n : Nat) (l : List (List AV)) (s : MwwF) : MwwF := l.foldl (wwS n) s
def v_wwR (na : Nat) (da : List (List AV)) (i : Nat) : List (List AV) := (List.range' i (min na 20 - i)).map fun j => da.getD j []
theorem ww_mem {n t : Nat} {s : MwwF} (h : Mem n s.tg s.d t s.T) (r : List AV) : Mem n (wwS n s r).tg (wwS n s r).d t (wwS n s r).T := by
  unfold wwS
  generalize wwW n s.d r = W
  cases v_wkE W with
  | true => exact h
  | false => exact h.wk W
theorem ww_cons (n : Nat) (r : List AV) (l : List (List AV)) (s : MwwF) : v_ww n (r :: l) s = v_ww n l (wwS n s r) := by unfold v_ww; rw [List.foldl_cons]
theorem ww_mems {n t : Nat} : ∀ (l : List (List AV)) (s : MwwF), Mem n s.tg s.d t s.T → Mem n (v_ww n l s).tg (v_ww n l s).d t (v_ww n l s).T
  | [], _, h => h
  | r :: l, s, h => by rw [ww_cons]; exact ww_mems l (wwS n s r) (ww_mem h r)
theorem mww_step (rw : Bool) (na ma : Nat) (da : List (List AV)) (n : Nat) (c0 c1 c2 : BitVec 64) (pr : List (List AV)) (p1 p2 : BitVec 32) (en th q : List (List AV)) (u1 u2 : BitVec 64) (u3 w : Bool) (t : Nat) (a0 a1 : BitVec 64) (a2 : Bool) (xl xt : List (List AV)) (xe : Bool) (xo : BitVec 64) (xw : Bool) (s : MwwF) (i : BitVec 64) (h : Mem n s.tg s.d t s.T) (hm : na ≤ ma) (hn : na < 2 ^ 63) (hi : i.toNat < na) (h20 : i.toNat < 20) :
    mwwStep (.a rw na ma da n s.tg n s.d c0 c1 c2 pr p1 p2 en th q u1 u2 u3 w n t n s.d t s.T a0 a1 a2 xl xt xe xo xw i) = some (.inl (.a rw na ma da n (wwS n s (da.getD i.toNat [])).tg n (wwS n s (da.getD i.toNat [])).d c0 c1 c2 pr p1 p2 en th q u1 u2 u3 w n t n (wwS n s (da.getD i.toNat [])).d t (wwS n s (da.getD i.toNat [])).T a0 a1 a2 xl xt xe xo xw (i + 1#64))) := by
  simp only [mwwStep]
  rw [slt_len (show i.toNat < 2 ^ 63 by omega) hn, slt_nat (show i.toNat < 2 ^ 63 by omega) (show (20#64).toNat < 2 ^ 63 by decide), show (20#64).toNat = 20 from rfl, Nat.zero_add, decide_eq_true hi, decide_eq_true h20, nonneg_lt (by omega), decide_eq_true (show i.toNat < ma by omega)]
  obtain ⟨q1, q2⟩ := priv_ok3 (asI64 ((da.getD i.toNat []).tail.tail.tail.tail.headD AV.any))
  rw [q1, q2, h.rmw, h.xrw]
  have hW : v_wk n s.d (asU64 ((da.getD i.toNat []).headD AV.any)) (asU64 ((da.getD i.toNat []).tail.headD AV.any)) (1#64 + v_kit_Pick (asI64 ((da.getD i.toNat []).tail.tail.tail.headD AV.any)) 3#64) (asI64 (([[AV.int IntKind.i64 0#64], [AV.int IntKind.i64 1#64]].getD (0 + (v_kit_Pick (asI64 ((da.getD i.toNat []).tail.tail.tail.tail.headD AV.any)) 2#64).toNat) []).headD AV.any)) (asU64 ((da.getD i.toNat []).tail.tail.headD AV.any)) = wwW n s.d (da.getD i.toNat []) := rfl
  rw [hW]
  unfold wwS
  have hl : (wwW n s.d (da.getD i.toNat [])).A.length ≤ 3 := wkA_len _ _ _ _ _ _ _
  generalize wwW n s.d (da.getD i.toNat []) = W at hl ⊢
  have hN : v_wkN W < 2 ^ 63 := by have := wkN_le hl; omega
  cases hE : v_wkE W with
  | true => simp only [cond_true, Bool.true_and, beq_self_eq_true, Bool.not_true, cond_false]
  | false => simp only [cond_true, cond_false, Bool.true_and, beq_self_eq_true, Bool.and_self, Bool.not_true, qa_self hN, qs_self hN]
theorem mww_rn (rw : Bool) (na ma : Nat) (da : List (List AV)) (n : Nat) (c0 c1 c2 : BitVec 64) (pr : List (List AV)) (p1 p2 : BitVec 32) (en th q : List (List AV)) (u1 u2 : BitVec 64) (u3 w : Bool) (t : Nat) (a0 a1 : BitVec 64) (a2 : Bool) (xl xt : List (List AV)) (xe : Bool) (xo : BitVec 64) (xw : Bool) (hm : na ≤ ma) (hn : na < 2 ^ 63) :
    ∀ (k : Nat) (s : MwwF) (i : BitVec 64), Mem n s.tg s.d t s.T → min na 20 - i.toNat = k → i.toNat ≤ min na 20 →
      Rn mwwStep (.a rw na ma da n s.tg n s.d c0 c1 c2 pr p1 p2 en th q u1 u2 u3 w n t n s.d t s.T a0 a1 a2 xl xt xe xo xw i) (.fine n (v_ww n (v_wwR na da i.toNat) s).tg n (v_ww n (v_wwR na da i.toNat) s).d n t n (v_ww n (v_wwR na da i.toNat) s).d t (v_ww n (v_wwR na da i.toNat) s).T bus2 (bClint c0 c1 c2) (bPlic pr p1 p2 en th) (bUart q u1 u2 u3) (bPow w) xbus9 (xClint a0 a1 a2) (xPlic xl xt) (xUart xe xo) (xPow xw)) := by
  intro k
  induction k with
  | zero =>
    intro s i h hk hi
    have e : v_wwR na da i.toNat = [] := by unfold v_wwR; rw [hk]; rfl
    rw [e]
    refine .last ?_
    simp only [mwwStep]
    rw [slt_len (show i.toNat < 2 ^ 63 by omega) hn, slt_nat (show i.toNat < 2 ^ 63 by omega) (show (20#64).toNat < 2 ^ 63 by decide), show (20#64).toNat = 20 from rfl]
    by_cases h1 : i.toNat < na
    · rw [decide_eq_true h1, decide_eq_false (by omega)]; rfl
    · rw [decide_eq_false h1]; rfl
  | succ k ih =>
    intro s i h hk hi
    have hinc := inc_nat (show i.toNat < 2 ^ 63 by omega)
    have e : v_wwR na da i.toNat = da.getD i.toNat [] :: v_wwR na da (i + 1#64).toNat := by
      unfold v_wwR
      rw [hinc, show min na 20 - i.toNat = (min na 20 - (i.toNat + 1)) + 1 by omega, List.range'_succ, List.map_cons]
    have ih' := ih (wwS n s (da.getD i.toNat [])) (i + 1#64) (ww_mem h (da.getD i.toNat [])) (by omega) (by omega)
    rw [e, ww_cons]
    exact .next (mww_step rw na ma da n c0 c1 c2 pr p1 p2 en th q u1 u2 u3 w t a0 a1 a2 xl xt xe xo xw s i h hm hn (by omega) (by omega)) ih'
noncomputable def g_mww (n : Nat) (tg : List (List AV)) (m : Nat) (d : List (List AV)) (nx t mx : Nat) (dx : List (List AV)) (mt : Nat) (T : List (List AV)) (na ma : Nat) (i : BitVec 64) : Bool := @decide (m = n ∧ nx = n ∧ mx = n ∧ dx = d ∧ mt = t ∧ Mem n tg d t T ∧ na ≤ ma ∧ na < 2 ^ 63 ∧ i = 0#64) (Classical.propDecidable _)
theorem g_mww_ok {n t na ma : Nat} {tg d T : List (List AV)} (h : Mem n tg d t T) (hm : na ≤ ma) (hn : na < 2 ^ 63) : g_mww n tg n d n t n d t T na ma 0#64 = true := by
  unfold g_mww
  exact @decide_eq_true _ (Classical.propDecidable _) ⟨rfl, rfl, rfl, rfl, rfl, h, hm, hn, rfl⟩
noncomputable def mwwCps : Cps MwwS := fun R x K => match x with
  | .a rw na ma da n tg m d c0 c1 c2 pr p1 p2 en th q u1 u2 u3 w nx t mx dx mt T a0 a1 a2 xl xt xe xo xw i => cond (g_mww n tg m d nx t mx dx mt T na ma i)
      (K (.exit 0) (tmOf [5, 7] (mwwV (.fine n (v_ww n (v_wwR na da 0) ⟨tg, d, T⟩).tg n (v_ww n (v_wwR na da 0) ⟨tg, d, T⟩).d n t n (v_ww n (v_wwR na da 0) ⟨tg, d, T⟩).d t (v_ww n (v_wwR na da 0) ⟨tg, d, T⟩).T bus2 (bClint c0 c1 c2) (bPlic pr p1 p2 en th) (bUart q u1 u2 u3) (bPow w) xbus9 (xClint a0 a1 a2) (xPlic xl xt) (xUart xe xo) (xPow xw))))
        (mwwG (.fine n (v_ww n (v_wwR na da 0) ⟨tg, d, T⟩).tg n (v_ww n (v_wwR na da 0) ⟨tg, d, T⟩).d n t n (v_ww n (v_wwR na da 0) ⟨tg, d, T⟩).d t (v_ww n (v_wwR na da 0) ⟨tg, d, T⟩).T bus2 (bClint c0 c1 c2) (bPlic pr p1 p2 en th) (bUart q u1 u2 u3) (bPow w) xbus9 (xClint a0 a1 a2) (xPlic xl xt) (xUart xe xo) (xPow xw))) 17) none
  | .z n tg m d c0 c1 c2 pr p1 p2 en th q u1 u2 u3 w nx t mx dx mt T a0 a1 a2 xl xt xe xo xw i => cond (i == 0#64) (K (.exit 0) (tmOf [5, 7] (mwwV (.fine n tg m d nx t mx dx mt T bus2 (bClint c0 c1 c2) (bPlic pr p1 p2 en th) (bUart q u1 u2 u3) (bPow w) xbus9 (xClint a0 a1 a2) (xPlic xl xt) (xUart xe xo) (xPow xw)))) (mwwG (.fine n tg m d nx t mx dx mt T bus2 (bClint c0 c1 c2) (bPlic pr p1 p2 en th) (bUart q u1 u2 u3) (bPow w) xbus9 (xClint a0 a1 a2) (xPlic xl xt) (xUart xe xo) (xPow xw))) 17) none
theorem mwwCps_ok (R : Type) (x : MwwS) (K : Out → TM → Heap → Nat → Option R) (r : R) (h : mwwCps R x K = some r) : ∃ z, Rn mwwStep x z ∧ K (mwwO z) (tmOf [5, 7] (mwwV z)) (mwwG z) (mwwM z) = some r := by
  cases x with
  | a rw na ma da n tg m d c0 c1 c2 pr p1 p2 en th q u1 u2 u3 w nx t mx dx mt T a0 a1 a2 xl xt xe xo xw i =>
    obtain ⟨hg, hk⟩ := condK h
    unfold g_mww at hg
    obtain ⟨rfl, rfl, rfl, rfl, rfl, h1, h2, h3, rfl⟩ := @of_decide_eq_true _ (Classical.propDecidable _) hg
    exact ⟨_, mww_rn rw na ma da _ c0 c1 c2 pr p1 p2 en th q u1 u2 u3 w _ a0 a1 a2 xl xt xe xo xw h2 h3 _ ⟨tg, _, T⟩ 0#64 h1 rfl (by simp), hk⟩
  | z n tg m d c0 c1 c2 pr p1 p2 en th q u1 u2 u3 w nx t mx dx mt T a0 a1 a2 xl xt xe xo xw i =>
    obtain ⟨hg, hk⟩ := condK h
    rw [beq_iff_eq] at hg
    subst hg
    exact ⟨_, .last rfl, hk⟩
end Go.Sx


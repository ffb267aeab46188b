/- A small executor over the loaded Go text, whose numbers may be unknown: what it answers, the machine answers (SxB on). Here: its data and its steps. -/
import Derived.Orders
import Derived.Laws.Sem
import GoSem.Dispatch
set_option linter.unusedSimpArgs false
set_option linter.unusedVariables false
set_option linter.unnecessarySimpa false
namespace Go.Sx
open Go

/-- The number that so many bits are, by the kind. -/
def den (k : IntKind) (v : BitVec k.bits) : Int := if k.signed then v.toInt else (v.toNat : Int)

/-- A place: in the block of the name x, the part that begins at off, its row i of sz cells, the cell j of that row. -/
structure AP where
  x : Nat
  off : Nat
  i : Nat
  sz : Nat
  j : Nat
def AP.pos (p : AP) : Nat := p.off + p.i * p.sz + p.j

inductive AV where
  | any
  | bool (b : Bool)
  | int (k : IntKind) (v : BitVec k.bits)
  | ptr (p : AP)
  | nilptr
  | slice (p : AP) (es n : Nat)
  | nilslice
  | func (f : Fn) (a c : List AV)
  | nilfunc
  | iface (t : TypeId) (v : AV)
  | nilface
  | agg (l : List AV)
  | tup (l : List AV)
  | lit (v : Value)

/-- The kind of a cell in a row. -/
inductive CK where
  | int (k : IntKind)
  | bool
  deriving DecidableEq

def AV.asInt (k : IntKind) : AV → BitVec k.bits
  | .int k' v => if h : k' = k then h ▸ v else 0
  | _ => 0
def AV.asBool : AV → Bool
  | .bool b => b
  | _ => false
def coerce : CK → AV → AV
  | .int k, v => .int k (v.asInt k)
  | .bool, v => .bool v.asBool
def fits : CK → AV → Bool
  | .int k, .int k' _ => decide (k = k')
  | .bool, .bool _ => true
  | _, _ => false
def fitsRow : List CK → List AV → Bool
  | [], [] => true
  | c :: s, v :: r => fits c v && fitsRow s r
  | _, _ => false
/-- A row as its kinds say. -/
def rowCells : List CK → List AV → List AV
  | [], _ => []
  | c :: s, l => coerce c (l.headD .any) :: rowCells s l.tail

inductive Seg where
  | cell (v : AV)
  | arr (sh : List CK) (n : Nat) (data : List (List AV))
structure Blk where
  rw : Bool
  segs : List Seg
abbrev Heap := List (Nat × Blk)
abbrev Eff := List (Nat × Option Blk)

def arrFlat (sh : List CK) : Nat → List (List AV) → List AV
  | 0, _ => []
  | n + 1, [] => rowCells sh [] ++ arrFlat sh n []
  | n + 1, r :: d => rowCells sh r ++ arrFlat sh n d
def flat : List Seg → List AV
  | [] => []
  | .cell v :: r => v :: flat r
  | .arr sh n d :: r => arrFlat sh n d ++ flat r

def findArr : List Seg → Nat → Option (List CK × Nat × List (List AV))
  | [], _ => none
  | .cell _ :: r, off => match off with
    | 0 => none
    | o + 1 => findArr r o
  | .arr sh n d :: r, off => match off with
    | 0 => some (sh, n, d)
    | o + 1 => bif Nat.ble (n * sh.length) (o + 1) then findArr r (o + 1 - n * sh.length) else none
def setArr : List Seg → Nat → List (List AV) → List Seg
  | [], _, _ => []
  | .cell v :: r, off, d' => match off with
    | 0 => .cell v :: r
    | o + 1 => .cell v :: setArr r o d'
  | .arr sh n d :: r, off, d' => match off with
    | 0 => .arr sh n d' :: r
    | o + 1 => .arr sh n d :: setArr r (o + 1 - n * sh.length) d'

def chunk : Nat → Nat → List AV → List (List AV)
  | 0, _, _ => []
  | n + 1, m, l => l.take m :: chunk n m (l.drop m)
def fitsAll (sh : List CK) : List (List AV) → Bool
  | [] => true
  | r :: d => fitsRow sh r && fitsAll sh d

inductive SegSh where
  | one
  | arr (sh : List CK) (n : Nat)
def mkSegs : List SegSh → List AV → Option (List Seg)
  | [], [] => some []
  | .one :: s, v :: r => match mkSegs s r with
    | some t => some (.cell v :: t)
    | none => none
  | .arr sh n :: s, vs =>
    let rows := chunk n sh.length vs
    bif Nat.ble (n * sh.length) vs.length && fitsAll sh rows then match mkSegs s (vs.drop (n * sh.length)) with
      | some t => some (.arr sh n rows :: t)
      | none => none
    else none
  | _, _ => none

/-- A row of cells written from a place on (no part begins in the middle of what is written). -/
def writeSegs : List Seg → Nat → List AV → Option (List Seg)
  | s, _, [] => some s
  | [], _, _ :: _ => none
  | .cell u :: r, off, v :: vs => match off with
    | 0 => match writeSegs r 0 vs with
      | some t => some (.cell v :: t)
      | none => none
    | o + 1 => match writeSegs r o (v :: vs) with
      | some t => some (.cell u :: t)
      | none => none
  | .arr sh n d :: r, off, v :: vs => match off with
    | 0 =>
      let rows := chunk n sh.length (v :: vs)
      bif Nat.ble (n * sh.length) (vs.length + 1) && fitsAll sh rows then match writeSegs r 0 ((v :: vs).drop (n * sh.length)) with
        | some t => some (.arr sh n rows :: t)
        | none => none
      else none
    | o + 1 => bif Nat.ble (n * sh.length) (o + 1) then match writeSegs r (o + 1 - n * sh.length) (v :: vs) with
        | some t => some (.arr sh n d :: t)
        | none => none
      else none

def splice (l : List AV) (o : Nat) (vs : List AV) : List AV := l.take o ++ (vs ++ l.drop (o + vs.length))

def Heap.find : Heap → Nat → Option Blk
  | [], _ => none
  | (y, b) :: h, x => bif Nat.beq y x then some b else Heap.find h x
def Heap.put : Heap → Nat → Blk → Heap
  | [], x, b => [(x, b)]
  | (y, c) :: h, x, b => bif Nat.beq y x then (x, b) :: h else (y, c) :: Heap.put h x b
def Heap.del : Heap → Nat → Heap
  | [], _ => []
  | (y, c) :: h, x => bif Nat.beq y x then Heap.del h x else (y, c) :: Heap.del h x
def Heap.upd : Heap → Eff → Heap
  | h, [] => h
  | h, (x, some b) :: e => Heap.upd (Heap.put h x b) e
  | h, (x, none) :: e => Heap.upd (Heap.del h x) e

/-- The temporaries: what is not known is any. -/
inductive TM where
  | nil
  | node (v : AV) (l r : TM)
def TM.get : TM → Nat → AV
  | .nil, _ => .any
  | .node v l r, i => bif Nat.beq i 0 then v else bif Nat.beq (Nat.mod i 2) 1 then l.get (Nat.div i 2) else r.get (Nat.sub (Nat.div i 2) 1)
def TM.set : Nat → TM → Nat → AV → TM
  | 0, _, _, _ => .nil
  | d + 1, .nil, i, v => bif Nat.beq i 0 then .node v .nil .nil else bif Nat.beq (Nat.mod i 2) 1 then .node .any (TM.set d .nil (Nat.div i 2) v) .nil
      else .node .any .nil (TM.set d .nil (Nat.sub (Nat.div i 2) 1) v)
  | d + 1, .node u l r, i, v => bif Nat.beq i 0 then .node v l r else bif Nat.beq (Nat.mod i 2) 1 then .node u (TM.set d l (Nat.div i 2) v) r
      else .node u l (TM.set d r (Nat.sub (Nat.div i 2) 1) v)
def TM.ofArgs (t : TM) (i : Nat) : List AV → TM
  | [] => t
  | v :: r => TM.ofArgs (t.set 12 i v) (i + 1) r

def ofS : Value → AV
  | .bool b => .bool b
  | .int k n => bif decide (den k (BitVec.ofInt k.bits n) = n) then .int k (BitVec.ofInt k.bits n) else .any
  | .pointer none => .nilptr
  | .slice none 0 0 => .nilslice
  | .nilFunc => .nilfunc
  | .nilIface => .nilface
  | v => .lit v
def ofV : Value → AV
  | .agg cs => .agg (cs.toList.map ofS)
  | v => ofS v
def evA (tm : TM) : Operand → AV
  | .tmp t => tm.get t
  | .const v => ofV v
  | .global _ => .any
  | .func f => .func (.func f) [] []

/-- May it lie in one cell? -/
def isCell : AV → Bool
  | .any | .agg _ | .tup _ => false
  | .lit v => v.oneCell'
  | _ => true
def cellsOf : AV → List AV
  | .agg l => l
  | v => [v]
def allCells : List AV → Bool
  | [] => true
  | v :: r => isCell v && allCells r

section
variable (P : Program)
def szOf (t : TypeId) : Option Nat := (P.info? t).map (·.size)
def shapeT : Nat → TypeId → Option (List CK)
  | 0, _ => none
  | d + 1, t => match P.underlying t with
    | some (.int k) => some [.int k]
    | some .bool => some [.bool]
    | some (.struct fs) => fs.toList.foldr (fun f acc => match shapeT d f.type, acc with
      | some a, some b => some (a ++ b)
      | _, _ => none) (some [])
    | some (.array n e) => match shapeT d e with
      | some a => some (List.replicate n a).flatten
      | none => none
    | _ => none
def layT : Nat → TypeId → List SegSh
  | 0, _ => []
  | d + 1, t => match P.underlying t with
    | some (.struct fs) => fs.toList.flatMap fun f => layT d f.type
    | some (.array n e) => match shapeT P d e with
      | some (c :: s) => [.arr (c :: s) n]
      | some [] => []
      | none => (List.replicate n (layT d e)).flatten
    | _ => [.one]
def isAggT (t : TypeId) : Option Bool := match P.underlying t with
  | some (.struct _) => some true
  | some (.array _ _) => some true
  | some _ => some false
  | none => none
end

def nonneg (k : IntKind) (v : BitVec k.bits) : Bool := !(k.signed && v.msb)

variable {R : Type}

/-- What a call answers: its value, what became of memory, the next name. -/
abbrev Oracle := (R : Type) → FuncId → List AV → Heap → Nat → (AV → Eff → Nat → Option R) → Option R

def shlA {w : Nat} (x : BitVec w) (n : Nat) : BitVec w := x <<< (min n w)
def ltA (k : IntKind) (x y : BitVec k.bits) : Bool := bif k.signed then x.slt y else x.ult y
def leA (k : IntKind) (x y : BitVec k.bits) : Bool := bif k.signed then x.sle y else x.ule y
def shrA (k : IntKind) (x : BitVec k.bits) (n : Nat) : BitVec k.bits := bif k.signed then x.sshiftRight (min n k.bits) else x >>> (min n k.bits)
def quoA (k : IntKind) (x y : BitVec k.bits) : BitVec k.bits := bif k.signed then x.sdiv y else x / y
def remA (k : IntKind) (x y : BitVec k.bits) : BitVec k.bits := bif k.signed then x.srem y else x % y
def convA (s d : IntKind) (x : BitVec s.bits) : BitVec d.bits := bif s.signed then x.signExtend d.bits else x.setWidth d.bits

def intBin (op : BinOp) (k : IntKind) (x y : BitVec k.bits) (K : AV → Option R) : Option R :=
  match op with
  | .add => K (.int k (x + y))
  | .sub => K (.int k (x - y))
  | .mul => K (.int k (x * y))
  | .quo => cond (y == 0) none (K (.int k (quoA k x y)))
  | .rem => cond (y == 0) none (K (.int k (remA k x y)))
  | .and => K (.int k (x &&& y))
  | .or => K (.int k (x ||| y))
  | .xor => K (.int k (x ^^^ y))
  | .andNot => K (.int k (x &&& ~~~y))
  | .eql => K (.bool (x == y))
  | .neq => K (.bool (!(x == y)))
  | .lss => K (.bool (ltA k x y))
  | .leq => K (.bool (leA k x y))
  | .gtr => K (.bool (ltA k y x))
  | .geq => K (.bool (leA k y x))
  | .shl | .shr => none

/-- Are two values of a type the same? (Whole numbers, bools, and structs and arrays of such; a pointer, a slice, an interface value and a function against nil.) -/
def eqA (P : Program) : Nat → TypeId → AV → AV → Option Bool
  | 0, _, _, _ => none
  | d + 1, t, x, y => match P.underlying t, x, y with
    | some .bool, .bool a, .bool b => some (a == b)
    | some (.int _), .int k a, .int k' b => if h : k' = k then some (a == h ▸ b) else none
    | some (.pointer _), .nilptr, .nilptr => some true
    | some (.pointer _), .nilptr, .ptr _ => some false
    | some (.pointer _), .ptr _, .nilptr => some false
    | some (.interface _), .nilface, .iface _ _ => some false
    | some (.interface _), .iface _ _, .nilface => some false
    | some (.slice _), .nilslice, .nilslice => some true
    | some (.slice _), .nilslice, .slice _ _ _ => some false
    | some (.slice _), .slice _ _ _, .nilslice => some false
    | some (.func _ _ _), .nilfunc, .nilfunc => some true
    | some (.func _ _ _), .nilfunc, .func _ _ _ => some false
    | some (.func _ _ _), .func _ _ _, .nilfunc => some false
    | some (.struct fs), .agg xs, .agg ys =>
      bif P.stoodInHeld t then none else
      fs.toList.foldr (fun f acc => match acc with
        | none => none
        | some r => if f.name = "_" then some r else
          match isAggT P f.type, szOf P f.type with
          | some true, some n => match eqA P d f.type (.agg ((xs.drop f.offset).take n)) (.agg ((ys.drop f.offset).take n)) with
            | some b => some (b && r)
            | none => none
          | some false, _ => match xs[f.offset]?, ys[f.offset]? with
            | some u, some v => match eqA P d f.type u v with
              | some b => some (b && r)
              | none => none
            | _, _ => none
          | _, _ => none) (some true)
    | some (.array len e), .agg xs, .agg ys =>
      match szOf P e with
      | none => none
      | some n => (List.range len).foldr (fun i acc => match acc with
        | none => none
        | some r => match isAggT P e with
          | some true => match eqA P d e (.agg ((xs.drop (i * n)).take n)) (.agg ((ys.drop (i * n)).take n)) with
            | some b => some (b && r)
            | none => none
          | some false => match xs[i * n]?, ys[i * n]? with
            | some u, some v => match eqA P d e u v with
              | some b => some (b && r)
              | none => none
            | _, _ => none
          | none => none) (some true)
    | _, _, _ => none

def binA (P : Program) (op : BinOp) (t : TypeId) (x y : AV) (K : AV → Option R) : Option R :=
  match op, x, y with
  | .shl, .int k a, .int yk b => cond (nonneg yk b) (K (.int k (shlA a b.toNat))) none
  | .shr, .int k a, .int yk b => cond (nonneg yk b) (K (.int k (shrA k a b.toNat))) none
  | op, .int k a, .int k' b => if h : k' = k then intBin op k a (h ▸ b) K else none
  | .eql, x, y => bif P.eqGuardType P.depth t then none else match eqA P 100 t x y with
    | some b => K (.bool b)
    | none => none
  | .neq, x, y => bif P.eqGuardType P.depth t then none else match eqA P 100 t x y with
    | some b => K (.bool (!b))
    | none => none
  | _, _, _ => none

/-- An interface's value held against the literal nil. -/
def nilA (P : Program) (op : BinOp) (t : TypeId) (v : AV) (y : Operand) : Option Bool :=
  match y with
  | .const .nilIface => match P.underlying t with
    | some (.interface _) => match op, v with
      | .eql, .nilface => some true
      | .eql, .iface _ _ => some false
      | .neq, .nilface => some false
      | .neq, .iface _ _ => some true
      | _, _ => none
    | _ => none
  | _ => none

def unA (op : UnOp) (x : AV) : Option AV :=
  match op, x with
  | .neg, .int k v => some (.int k (-v))
  | .xor, .int k v => some (.int k (~~~v))
  | .not, .bool b => some (.bool (!b))
  | _, _ => none

/-- Some cells from a place on: parts that stand before it are passed over. -/
def takeSegs : List Seg → Nat → Nat → Option (List AV)
  | [], _, n => match n with
    | 0 => some []
    | _ + 1 => none
  | .cell v :: r, off, n => match n with
    | 0 => some []
    | n + 1 => match off with
      | 0 => match takeSegs r 0 n with
        | some l => some (v :: l)
        | none => none
      | o + 1 => takeSegs r o (n + 1)
  | .arr sh m d :: r, off, n => match n with
    | 0 => some []
    | n + 1 => bif Nat.ble (m * sh.length) off then takeSegs r (off - m * sh.length) (n + 1) else
      let cs := ((flat (.arr sh m d :: r)).drop off).take (n + 1)
      bif Nat.beq cs.length (n + 1) then some cs else none
def loadA (H : Heap) (p : AP) (n : Nat) (K : List AV → Option R) : Option R :=
  match H.find p.x with
  | none => none
  | some b => match p.sz with
    | 0 => match takeSegs b.segs p.off n with
      | some cs => bif Nat.beq p.j 0 then K cs else none
      | none => none
    | s + 1 => match findArr b.segs p.off with
      | none => none
      | some (sh, m, d) => bif Nat.beq sh.length (s + 1) && Nat.ble (p.j + n) (s + 1) then
          cond (decide (p.i < m)) (K (((rowCells sh (d.getD p.i [])).drop p.j).take n)) none
        else none

def storeA (H : Heap) (p : AP) (vs : List AV) (K : Blk → Option R) : Option R :=
  bif allCells vs && Nat.ble 1 vs.length then
    match H.find p.x with
    | none => none
    | some b => bif b.rw then match p.sz with
      | 0 => bif Nat.beq p.j 0 then match writeSegs b.segs p.off vs with
          | some s => K { b with segs := s }
          | none => none
        else none
      | s + 1 => match findArr b.segs p.off with
        | none => none
        | some (sh, m, d) =>
          let row := splice (rowCells sh (d.getD p.i [])) p.j vs
          bif Nat.beq sh.length (s + 1) && Nat.ble (p.j + vs.length) (s + 1) && fitsRow sh row then
            cond (decide (p.i < m) && decide (p.i < d.length)) (K { b with segs := setArr b.segs p.off (d.set p.i row) }) none
          else none
      else none
  else none

def aggOr (P : Program) (t : TypeId) (cs : List AV) (K : AV → Option R) : Option R :=
  match isAggT P t with
  | some true => K (.agg cs)
  | some false => match cs with
    | [v] => K v
    | _ => none
  | none => none

/-- A new block of a type's cells. -/
def newA (P : Program) (t : TypeId) (cs : List AV) (N : Nat) (K : AV → Eff → Nat → Option R) : Option R :=
  bif allCells cs then match mkSegs (layT P 40 t) cs with
    | some s => K (.ptr ⟨N, 0, 0, 0, 0⟩) [(N, some ⟨true, s⟩)] (N + 1)
    | none => none
  else none

def fillA (place : Nat → Option (Nat × Nat)) : List AV → List (Nat × AV) → Option (List AV)
  | cs, [] => some cs
  | cs, (i, v) :: r => match place i with
    | none => none
    | some (off, size) =>
      let c := cellsOf v
      bif Nat.beq c.length size && Nat.ble (off + c.length) cs.length && allCells c then fillA place (splice cs off c) r else none

def zeroA (P : Program) (t : TypeId) : Option (List AV) := match P.info? t with
  | some i => match i.zero with
    | some v => some (cellsOf (ofV v))
    | none => none
  | none => none

def buildA (P : Program) (t : TypeId) (parts : List (Nat × AV)) : Option AV :=
  match zeroA P t, P.underlying t with
  | some z, some (.struct fs) => bif !(fs.toList.all fun f => (szOf P f.type).isSome) || !(allCells z) then none else match fillA (fun i => match fs[i]? with
      | some f => match szOf P f.type with
        | some n => some (f.offset, n)
        | none => none
      | none => none) z parts with
    | some l => some (.agg l)
    | none => none
  | some z, some (.array _ e) => bif !(allCells z) then none else match szOf P e with
    | some n => match fillA (fun i => some (i * n, n)) z parts with
      | some l => some (.agg l)
      | none => none
    | none => none
  | _, _ => none

/-- A new block of n elements of a type. -/
def rowsA (P : Program) (e : TypeId) (n : Nat) (cs : List AV) : Option (List Seg × Nat) :=
  match shapeT P 40 e, szOf P e with
  | some (c :: s), some m => bif Nat.beq m (s.length + 1) then match mkSegs [.arr (c :: s) n] cs with
      | some t => some (t, m)
      | none => none
    else none
  | none, some _ => match mkSegs (List.replicate n (layT P 40 e)).flatten cs with
    | some t => some (t, 0)
    | none => none
  | _, _ => none

def rep (n : Nat) (l : List AV) : List AV := (List.replicate n l).flatten

def buildSliceA (P : Program) (t : TypeId) (n : Nat) (parts : List (Nat × AV)) (N : Nat) (K : AV → Eff → Nat → Option R) : Option R :=
  match P.underlying t with
  | some (.slice e) => match szOf P e, zeroA P e with
    | some (m + 1), some z => bif Nat.ble (n * (m + 1)) (2 ^ 24) && Nat.beq z.length (m + 1) && allCells z && Nat.ble 1 n then
        match fillA (fun i => some (i * (m + 1), m + 1)) (rep n z) parts with
        | some cs => match rowsA P e n cs with
          | some (s, sz) => K (.slice ⟨N, 0, 0, sz, 0⟩ (m + 1) n) [(N, some ⟨true, s⟩)] (N + 1)
          | none => none
        | none => none
      else none
    | _, _ => none
  | _ => none

def fieldAddrA (P : Program) (t : TypeId) (x : AV) (f : Nat) : Option AV :=
  match P.underlying t, x with
  | some (.struct fs), .ptr p => match fs[f]? with
    | some fd => match szOf P fd.type with
      | some (_ + 1) => match p.sz with
        | 0 => some (.ptr { p with off := p.off + fd.offset })
        | _ + 1 => some (.ptr { p with j := p.j + fd.offset })
      | _ => none
    | none => none
  | _, _ => none

def cutA (P : Program) (t : TypeId) (l : List AV) (n : Nat) (K : AV → Option R) : Option R := bif Nat.beq l.length n then aggOr P t l K else none

def fieldA (P : Program) (t : TypeId) (x : AV) (f : Nat) (K : AV → Option R) : Option R :=
  match P.underlying t, x with
  | some (.struct fs), .agg cs => match fs[f]? with
    | some fd => match szOf P fd.type with
      | some n =>
        cutA P fd.type ((cs.drop fd.offset).take n) n K
      | none => none
    | none => none
  | _, _ => none

/-- The place of an element: p is where the first one is. -/
def stepTo (p : AP) (es i : Nat) : AP := match p.sz with
  | 0 => { p with off := p.off + i * es }
  | _ + 1 => { p with i := p.i + i }

def indexAddrA (P : Program) (t : TypeId) (x ix : AV) (K : AV → Option R) : Option R :=
  match ix with
  | .int k v => match P.underlying t, x with
    | some (.slice e), .slice p es n => match szOf P e with
      | some m => bif Nat.beq m es && (Nat.beq p.sz 0 || Nat.beq p.sz es) then cond (nonneg k v && decide (v.toNat < n)) (K (.ptr (stepTo p es v.toNat))) none else none
      | none => none
    | some (.array n e), .ptr p => match szOf P e with
      | some m => cond (nonneg k v && decide (v.toNat < n)) (match p.sz with
          | 0 => match shapeT P 40 e with
            | some (c :: s) => bif Nat.beq (s.length + 1) m then K (.ptr ⟨p.x, p.off, v.toNat, (c :: s).length, p.j⟩) else none
            | _ => K (.ptr { p with off := p.off + v.toNat * m })
          | _ + 1 => K (.ptr { p with j := p.j + v.toNat * m })) none
      | none => none
    | _, _ => none
  | _ => none

def byteAt (b : ByteArray) (i : Nat) : BitVec 8 := BitVec.ofNat 8 (b.data.toList.getD i 0).toNat
def indexA (P : Program) (t : TypeId) (x ix : AV) (K : AV → Option R) : Option R :=
  match ix, P.underlying t, x with
  | .int k v, some (.array n e), .agg cs => match szOf P e with
    | some m => cond (nonneg k v && decide (v.toNat < n))
        (cutA P e ((cs.drop (v.toNat * m)).take m) m K) none
    | none => none
  | .int k v, some .string, .lit (.string b) => cond (nonneg k v && decide (v.toNat < b.size)) (K (.int .u8 (byteAt b v.toNat))) none
  | _, _, _ => none

def boundA (v : Option AV) (d : Nat) (K : Nat → Option R) : Option R :=
  match v with
  | none => K d
  | some (.int k n) => cond (nonneg k n) (K n.toNat) none
  | some _ => none

/-- A slice of a slice, or of an array behind its address (never three indexes). -/
def sliceA (P : Program) (t : TypeId) (x : AV) (lo hi : Option AV) (K : AV → Option R) : Option R :=
  match P.underlying t, x with
  | some (.slice e), .slice p es n => match szOf P e with
    | some m => bif Nat.beq m es && (Nat.beq p.sz 0 || Nat.beq p.sz es) then
        boundA lo 0 fun l => boundA hi n fun h => cond (decide (h ≤ n) && (decide (l < h) || Nat.beq l 0)) (K (.slice (stepTo p es l) es (h - l))) none
      else none
    | none => none
  | some (.slice e), .nilslice => match szOf P e with
    | some _ => boundA lo 0 fun l => boundA hi 0 fun h => cond (Nat.beq h 0 && Nat.beq l 0) (K .nilslice) none
    | none => none
  | _, _ => none

def makeSliceA (P : Program) (t : TypeId) (len cap : AV) (N : Nat) (K : AV → Eff → Nat → Option R) : Option R :=
  match P.underlying t, len, cap with
  | some (.slice e), .int k l, .int k' c => match szOf P e, zeroA P e, P.info? e, shapeT P 40 e with
    | some (m + 1), some z, some i, some (s0 :: s) => bif Nat.beq (s.length + 1) (m + 1) && fitsRow (s0 :: s) z && Nat.ble 1 i.bytes && allCells z then
        cond (nonneg k l && nonneg k' c && decide (l.toNat = c.toNat) && decide (i.bytes * c.toNat ≤ 2 ^ 47))
          (K (.slice ⟨N, 0, 0, m + 1, 0⟩ (m + 1) l.toNat) [(N, some ⟨true, [.arr (s0 :: s) c.toNat (List.replicate c.toNat z)]⟩)] (N + 1)) none
      else none
    | _, _, _, _ => none
  | _, _, _ => none

/-- What append adds: its rows. -/
def rowsOf (H : Heap) (sh : List CK) (v : AV) : Option (List (List AV)) :=
  match v with
  | .nilslice => some []
  | .slice p _ n => match H.find p.x with
    | some b => match findArr b.segs p.off with
      | some (sh', m, d) => bif decide (sh' = sh) && Nat.beq p.sz sh.length && Nat.beq p.j 0 && decide (p.i + n ≤ m) && decide (d.length = m) then some ((d.drop p.i).take n) else none
      | none => none
    | none => none
  | _ => none

/-- May its room be written? -/
def ownsA (H : Heap) (m : Nat) : AV → Bool
  | .slice p es _ => match H.find p.x with
    | some b => b.rw && Nat.beq es m
    | none => false
  | .nilslice => true
  | _ => false

/-- What append adds, as it goes on: how many rows, and which. -/
def rowsK (H : Heap) (sh : List CK) (v : AV) (K : Nat → List (List AV) → Option R) : Option R :=
  match v with
  | .nilslice => K 0 []
  | .slice p _ n => match H.find p.x with
    | some b => match findArr b.segs p.off with
      | some (sh', m, d) => bif decide (sh' = sh) && Nat.beq p.sz sh.length && Nat.beq p.j 0 then cond (decide (p.i + n ≤ m) && decide (d.length = m)) (K n ((d.drop p.i).take n)) none else none
      | none => none
    | none => none
  | _ => none
/-- Is there room for so many elements of so many bytes? -/
def v_room (n b : Nat) : Bool := decide (n * b ≤ 2 ^ 47 + 2 ^ 20)

def appendA (P : Program) (t : TypeId) (H : Heap) (s x : AV) (N : Nat) (K : AV → Eff → Nat → Option R) : Option R :=
  match P.underlying t with
  | some (.slice e) => match x with
   | .nilslice => match s, szOf P e with
    | .nilslice, some _ => K .nilslice [] N
    | .slice p es n, some _ => K (.slice p es n) [] N
    | _, _ => none
   | _ => match shapeT P 40 e, szOf P e, P.info? e, zeroA P e with
    | some (c :: sh), some m, some i, some z => bif Nat.beq m (sh.length + 1) && Nat.ble 1 i.bytes && Nat.ble i.bytes (2 ^ 20) && Nat.beq z.length m && allCells z then
        bif ownsA H m s then rowsK H (c :: sh) s fun na a => rowsK H (c :: sh) x fun nb b =>
          cond (decide (1 ≤ nb) && v_room (na + nb) i.bytes)
            (K (.slice ⟨N, 0, 0, m, 0⟩ m (na + nb))
              ((match s with | .slice p _ _ => [(p.x, none)] | _ => []) ++ [(N, some ⟨true, [.arr (c :: sh) (na + nb) (a ++ b)]⟩)]) (N + 1)) none
        else none
      else none
    | _, _, _, _ => none
  | _ => none

def minA (k : IntKind) (x y : BitVec k.bits) : BitVec k.bits := bif ltA k y x then y else x
def maxA (k : IntKind) (x y : BitVec k.bits) : BitVec k.bits := bif ltA k x y then y else x
def foldA (f : (k : IntKind) → BitVec k.bits → BitVec k.bits → BitVec k.bits) (k : IntKind) (x : BitVec k.bits) : List AV → Option AV
  | [] => some (.int k x)
  | .int k' y :: r => if h : k' = k then foldA f k (f k x (h ▸ y)) r else none
  | _ => none

def builtinA (P : Program) (b : Builtin) (ts : Array TypeId) (H : Heap) (args : List AV) (N : Nat) (K : AV → Eff → Nat → Option R) : Option R :=
  match b, args with
  | .len, [x] => match ts[0]? with
    | some t => match P.underlying t, x with
      | some (.slice _), .slice _ _ n => K (.int .i64 (BitVec.ofNat 64 n)) [] N
      | some (.slice _), .nilslice => K (.int .i64 0#64) [] N
      | some (.array n _), _ => bif Nat.blt n (2 ^ 62) then K (.int .i64 (BitVec.ofNat 64 n)) [] N else none
      | some (.pointer a), _ => match P.underlying a with
        | some (.array n _) => bif Nat.blt n (2 ^ 62) then K (.int .i64 (BitVec.ofNat 64 n)) [] N else none
        | _ => none
      | _, _ => none
    | none => none
  | .append, [s, x] => match ts[0]?, ts[1]? with
    | some t, some u => match P.underlying u with
      | some (.slice _) => appendA P t H s x N K
      | _ => none
    | _, _ => none
  | .min, .int k x :: r => match foldA minA k x r with
    | some v => K v [] N
    | none => none
  | .max, .int k x :: r => match foldA maxA k x r with
    | some v => K v [] N
    | none => none
  | _, _ => none

/-- The function that a value of an interface comes to at a method's name: a method of its own, or one of an embedded interface value. -/
def methodA (P : Program) : Nat → TypeId → AV → String → Option (FuncId × AV)
  | 0, _, _, _ => none
  | d + 1, t, v, name => match P.info? t with
    | none => none
    | some i => match i.methods.find? (·.name == name) with
      | none => none
      | some m => match m.func, m.path.toList with
        | some (f, true), [] => match P.underlying t, v with
          | some (.pointer _), .ptr p => some (f, .ptr p)
          | _, _ => none
        | none, [s] => bif s.deref then none else match P.underlying s.struct, v with
          | some (.struct fs), .agg cs => match fs[s.index]? with
            | some f => match isAggT P f.type, cs[f.offset]? with
              | some false, some (.iface t' v') => methodA P d t' v' name
              | _, _ => none
            | none => none
          | _, _ => none
        | _, _ => none

def callA (P : Program) (C : Oracle) (c : Call) (ev : Operand → AV) (H : Heap) (N : Nat) (K : AV → Eff → Nat → Option R) : Option R :=
  match c.callee with
  | .builtin b => builtinA P b c.argTypes H (c.args.toList.map ev) N K
  | .value f => match ev f with
    | .func (.func g) a cs => C R g (a ++ (c.args.toList.map ev ++ cs)) H N K
    | _ => none
  | .invoke r name => match ev r with
    | .iface t v => match methodA P 8 t v name with
      | some (g, x) => C R g (x :: c.args.toList.map ev) H N K
      | none => none
    | _ => none

def opA (P : Program) (C : Oracle) (op : Op) (tm : TM) (H : Heap) (N : Nat) (K : AV → Eff → Nat → Option R) : Option R :=
  match op with
  | .move x | .assign x => K (evA tm x) [] N
  | .pick c a b => match evA tm c with
    | .bool u => match evA tm a, evA tm b with
      | .bool x, .bool y => K (.bool (cond u x y)) [] N
      | x, y => cond u (K x [] N) (K y [] N)
    | _ => none
  | .alloc t => match zeroA P t with
    | some z => newA P t z N K
    | none => none
  | .box t x => newA P t (cellsOf (evA tm x)) N K
  | .build t ps => match buildA P t (ps.toList.map fun (i, x) => (i, evA tm x)) with
    | some v => K v [] N
    | none => none
  | .buildSlice t n ps => buildSliceA P t n (ps.toList.map fun (i, x) => (i, evA tm x)) N K
  | .load t a => match evA tm a, szOf P t with
    | .ptr p, some n => loadA H p n fun cs => aggOr P t cs fun v => K v [] N
    | _, _ => none
  | .store t a x => match evA tm a, szOf P t with
    | .ptr p, some n => let cs := cellsOf (evA tm x)
      bif Nat.beq cs.length n then storeA H p cs fun b => K (.tup []) [(p.x, some b)] N else none
    | _, _ => none
  | .nilCheck x => match evA tm x with
    | .ptr p => K (.ptr p) [] N
    | .func (.func f) a c => K (.func (.func f) a c) [] N
    | _ => none
  | .binOp op t x y _ => match nilA P op t (evA tm x) y with
    | some b => K (.bool b) [] N
    | none => binA P op t (evA tm x) (evA tm y) fun v => K v [] N
  | .unOp op _ x => match unA op (evA tm x) with
    | some v => K v [] N
    | none => none
  | .convert s d x => match P.underlying s, P.underlying d, evA tm x with
    | some _, some (.int k), .int k' v => K (.int k (convA k' k v)) [] N
    | _, _, _ => none
  | .makeInterface t x => match P.underlying t with
    | some (.interface _) => none
    | some _ => K (.iface t (evA tm x)) [] N
    | none => none
  | .makeFunc f a c => K (.func f (a.toList.map (evA tm)) (c.toList.map (evA tm))) [] N
  | .makeSlice t l c => makeSliceA P t (evA tm l) (evA tm c) N K
  | .slice t x lo hi none => sliceA P t (evA tm x) (lo.map (evA tm)) (hi.map (evA tm)) fun v => K v [] N
  | .fieldAddr t x f => match fieldAddrA P t (evA tm x) f with
    | some v => K v [] N
    | none => none
  | .field t x f => fieldA P t (evA tm x) f fun v => K v [] N
  | .indexAddr t x i => indexAddrA P t (evA tm x) (evA tm i) fun v => K v [] N
  | .index t x i => indexA P t (evA tm x) (evA tm i) fun v => K v [] N
  | .extract x i => match evA tm x with
    | .tup l => match l[i]? with
      | some v => K v [] N
      | none => none
    | _ => none
  | .call c => callA P C c (evA tm) H N K
  | _ => none

/-! values and memory brought to constructors (each of these is the identity: SxC2): the reckoner stays quick -/
/-- What is brought to constructors: rows of memory; numbers. -/
structure Fl where
  d : Bool
  n : Bool
def fN (n : Nat) (K : Nat → Option R) : Option R := match n with
  | 0 => K 0
  | m + 1 => K (Nat.succ m)
def fB {w : Nat} (fl : Bool) (b : BitVec w) (K : BitVec w → Option R) : Option R := bif fl then fN b.toNat fun n => K (BitVec.ofNat w n) else K b
def fP (fl : Bool) (p : AP) (K : AP → Option R) : Option R := match p with
  | ⟨x, off, i, sz, j⟩ => fN x fun x => fN sz fun sz => bif fl then fN off fun off => fN i fun i => fN j fun j => K ⟨x, off, i, sz, j⟩ else K ⟨x, off, i, sz, j⟩
mutual
def fV (fl : Fl) : AV → (AV → Option R) → Option R
  | .any, K => K .any
  | .bool b, K => bif fl.n then (match b with | true => K (.bool true) | false => K (.bool false)) else K (.bool b)
  | .int k b, K => match k with
    | .i8 => fB fl.n b fun b => K (.int .i8 b)
    | .i16 => fB fl.n b fun b => K (.int .i16 b)
    | .i32 => fB fl.n b fun b => K (.int .i32 b)
    | .i64 => fB fl.n b fun b => K (.int .i64 b)
    | .u8 => fB fl.n b fun b => K (.int .u8 b)
    | .u16 => fB fl.n b fun b => K (.int .u16 b)
    | .u32 => fB fl.n b fun b => K (.int .u32 b)
    | .u64 => fB fl.n b fun b => K (.int .u64 b)
  | .ptr p, K => fP fl.n p fun p => K (.ptr p)
  | .nilptr, K => K .nilptr
  | .slice p es n, K => fP fl.n p fun p => bif fl.n then fN n fun n => K (.slice p es n) else K (.slice p es n)
  | .nilslice, K => K .nilslice
  | .func f a c, K => fL fl a fun a => fL fl c fun c => K (.func f a c)
  | .nilfunc, K => K .nilfunc
  | .iface t v, K => fV fl v fun v => K (.iface t v)
  | .nilface, K => K .nilface
  | .agg l, K => fL fl l fun l => K (.agg l)
  | .tup l, K => fL fl l fun l => K (.tup l)
  | .lit v, K => K (.lit v)
def fL (fl : Fl) : List AV → (List AV → Option R) → Option R
  | [], K => K []
  | v :: l, K => fV fl v fun v => fL fl l fun l => K (v :: l)
end
def fR (fl : Fl) : List (List AV) → (List (List AV) → Option R) → Option R
  | [], K => K []
  | r :: l, K => fL fl r fun r => fR fl l fun l => K (r :: l)
def fS (fl : Fl) : List Seg → (List Seg → Option R) → Option R
  | [], K => K []
  | .cell v :: l, K => fV fl v fun v => fS fl l fun l => K (.cell v :: l)
  | .arr sh n d :: l, K => bif fl.d then fR fl d fun d => fS fl l fun l => K (.arr sh n d :: l) else fS fl l fun l => K (.arr sh n d :: l)
def fE (fl : Fl) : Eff → (Eff → Option R) → Option R
  | [], K => K []
  | (x, none) :: l, K => fN x fun x => fE fl l fun l => K ((x, none) :: l)
  | (x, some ⟨rw, s⟩) :: l, K => fN x fun x => fS fl s fun s => fE fl l fun l => K ((x, some ⟨rw, s⟩) :: l)
/-- The spine alone. -/
def fT : TM → (TM → Option R) → Option R
  | .nil, K => K .nil
  | .node v l r, K => fT l fun l => fT r fun r => K (.node v l r)
def fH : Heap → (Heap → Option R) → Option R
  | [], K => K []
  | (x, b) :: l, K => fH l fun l => K ((x, b) :: l)
/-- Deep, but for rows. -/
def fTd (fl : Fl) : TM → (TM → Option R) → Option R
  | .nil, K => K .nil
  | .node v l r, K => fV fl v fun v => fTd fl l fun l => fTd fl r fun r => K (.node v l r)
def fHd (fl : Fl) : Heap → (Heap → Option R) → Option R
  | [], K => K []
  | (x, ⟨rw, s⟩) :: l, K => fN x fun x => fS ⟨false, fl.n⟩ s fun s => fHd fl l fun l => K ((x, ⟨rw, s⟩) :: l)

/-- An operation; what it answers is brought to constructors. -/
def opF (P : Program) (C : Oracle) (fl : Fl) (op : Op) (tm : TM) (H : Heap) (N : Nat) (K : AV → Eff → Nat → Option R) : Option R :=
  opA P C op tm H N fun v e N' => fV fl v fun v => fE fl e fun e => fN N' fun N' => K v e N'

def putA (nt : Nat) (tm : TM) (d : Option Tmp) (v : AV) (K : TM → Option R) : Option R :=
  match d with
  | none => K tm
  | some d => bif Nat.blt d nt then K (tm.set 12 d v) else none

/-- One operation: its guard, what it does, where it lays its value. -/
def operA (P : Program) (C : Oracle) (fl : Fl) (nt : Nat) (ops : Array Oper) (o : Oper) (tm : TM) (H : Heap) (N : Nat) (K : TM → Heap → Nat → Option R) : Option R :=
  let run (tm : TM) : Option R := opF P C fl o.op tm H N fun v e N' => putA nt tm o.dst v fun tm => K tm (H.upd e) N'
  let skip (tm : TM) : Option R := putA nt tm o.dst (.tup []) fun tm => K tm H N
  match o.guard with
  | none => run tm
  | some (j, want) => match (ops[j]?).bind (·.dst) with
    | none => none
    | some d => bif Nat.blt d nt then match tm.get d with
      | .bool b => cond b (cond want (run (tm.set 12 d (.bool true))) (skip (tm.set 12 d (.bool true)))) (cond want (skip (tm.set 12 d (.bool false))) (run (tm.set 12 d (.bool false))))
      | .tup [] => skip tm
      | _ => none
      else none

def opsA (P : Program) (C : Oracle) (fl : Fl) (nt : Nat) (ops : Array Oper) : List Oper → TM → Heap → Nat → (TM → Heap → Nat → Option R) → Option R
  | [], tm, H, N, K => K tm H N
  | o :: r, tm, H, N, K => operA P C fl nt ops o tm H N fun tm H N => fT tm fun tm => fH H fun H => opsA P C fl nt ops r tm H N K

/-! names brought to a normal form -/
mutual
def AV.names : AV → List Nat
  | .ptr p => [p.x]
  | .slice p _ _ => [p.x]
  | .func _ a c => AV.namesL a ++ AV.namesL c
  | .iface _ v => AV.names v
  | .agg l => AV.namesL l
  | .tup l => AV.namesL l
  | _ => []
def AV.namesL : List AV → List Nat
  | [] => []
  | v :: l => AV.names v ++ AV.namesL l
end
mutual
def AV.ren (f : Nat → Nat) : AV → AV
  | .ptr p => .ptr { p with x := f p.x }
  | .slice p es n => .slice { p with x := f p.x } es n
  | .func g a c => .func g (AV.renL f a) (AV.renL f c)
  | .iface t v => .iface t (AV.ren f v)
  | .agg l => .agg (AV.renL f l)
  | .tup l => .tup (AV.renL f l)
  | v => v
def AV.renL (f : Nat → Nat) : List AV → List AV
  | [] => []
  | v :: l => AV.ren f v :: AV.renL f l
end
def segNames : List Seg → List Nat
  | [] => []
  | .cell v :: r => v.names ++ segNames r
  | .arr _ _ _ :: r => segNames r
def segRen (f : Nat → Nat) : List Seg → List Seg
  | [] => []
  | .cell v :: r => .cell (v.ren f) :: segRen f r
  | .arr sh n d :: r => .arr sh n d :: segRen f r
def memB (x : Nat) : List Nat → Bool
  | [] => false
  | y :: l => Nat.beq x y || memB x l
def posN (x : Nat) : List Nat → Nat
  | [] => 0
  | y :: l => bif Nat.beq x y then 0 else Nat.succ (posN x l)
def liveGo (N : Nat) (H : Heap) : Nat → List Nat → List Nat → List Nat
  | 0, _, live => live
  | _ + 1, [], live => live
  | k + 1, x :: todo, live => bif Nat.blt x N || memB x live then liveGo N H k todo live else
      liveGo N H k (match H.find x with
        | some b => segNames b.segs ++ todo
        | none => todo) (live ++ [x])
def oldNames (N : Nat) : Heap → List Nat
  | [] => []
  | (x, b) :: h => bif Nat.blt x N then segNames b.segs ++ oldNames N h else oldNames N h
def keptN (N : Nat) (live : List Nat) (x : Nat) : Bool := Nat.blt x N || memB x live
def allKept (N : Nat) (live : List Nat) : List Nat → Bool
  | [] => true
  | x :: l => keptN N live x && allKept N live l
def renN (N : Nat) (live : List Nat) (x : Nat) : Nat := bif Nat.blt x N then x else N + posN x live
def nodupB : List Nat → Bool
  | [] => true
  | x :: l => !(memB x l) && nodupB l
def aboveB (N : Nat) : List Nat → Bool
  | [] => true
  | x :: l => Nat.ble N x && aboveB N l
/-- Memory that is kept, its names brought to a normal form; what would tell of others is let go. -/
def keptH (N : Nat) (live : List Nat) : Heap → Heap
  | [] => []
  | (x, b) :: h => bif keptN N live x then (renN N live x, { b with segs := bif allKept N live (segNames b.segs) then segRen (renN N live) b.segs else [] }) :: keptH N live h else keptH N live h
def keptV (N : Nat) (live : List Nat) (v : AV) : AV := bif allKept N live v.names then v.ren (renN N live) else .any
def keptT (N : Nat) (live : List Nat) : TM → TM
  | .nil => .nil
  | .node v l r => .node (keptV N live v) (keptT N live l) (keptT N live r)
def rootNames (tm : TM) : List Nat → List Nat
  | [] => []
  | t :: l => (tm.get t).names ++ rootNames tm l
def liveOf (N : Nat) (H : Heap) (roots : List Nat) : List Nat := liveGo N H 400 (roots ++ oldNames N H) []
/-- Names from N on that are still told of, counted from N on. -/
def normA (N : Nat) (roots : List Nat) (tm : TM) (H : Heap) (K : TM → Heap → Nat → Option R) : Option R :=
  let live := liveOf N H (rootNames tm roots)
  bif nodupB live && aboveB N live then K (keptT N live tm) (keptH N live H) (N + live.length) else none

inductive Out where
  | normal
  | exit (id : Nat)
  | ret

/-- Names in the normal form; all that is told is brought to constructors. -/
def normF (fl : Fl) (N : Nat) (roots : List Nat) (tm : TM) (H : Heap) (K : TM → Heap → Nat → Option R) : Option R :=
  normA N roots tm H fun tm H N => fTd fl tm fun tm => fHd fl H fun H => fN N fun N => K tm H N

def loopA (fl : Fl) (N0 : Nat) (roots : List Nat) (body : TM → Heap → Nat → (Out → TM → Heap → Nat → Option R) → Option R) : Nat → TM → Heap → Nat → (Out → TM → Heap → Nat → Option R) → Option R
  | 0, _, _, _, _ => none
  | n + 1, tm, H, N, K => body tm H N fun o tm H N => match o with
    | .normal => normF fl N0 roots tm H fun tm H N => loopA fl N0 roots body n tm H N K
    | o => K o tm H N

/-- How far a function's loops may go, and which temporaries are its variables. -/
structure Cfg where
  F : Nat
  roots : List Nat
  fl : Fl := ⟨false, false⟩
  laws : List (Nat × ((R : Type) → TM → Heap → Nat → (Out → TM → Heap → Nat → Option R) → Option R)) := []
abbrev Handler := (R : Type) → TM → Heap → Nat → (Out → TM → Heap → Nat → Option R) → Option R
def lawOf : List (Nat × Handler) → Nat → Option Handler
  | [], _ => none
  | (i, h) :: l, id => bif Nat.beq i id then some h else lawOf l id

/-- A bool that is known from here on. -/
def knowA (nt : Nat) (c : Operand) (b : Bool) (tm : TM) : TM := match c with
  | .tmp t => bif Nat.blt t nt then tm.set 12 t (.bool b) else tm
  | _ => tm

/-- Draws are another text's. -/
abbrev DrawA := (R : Type) → Array Oper → TM → Heap → Nat → (TM → Heap → Nat → Option R) → Option R

def codeA (P : Program) (C : Oracle) (D : DrawA) (F : Cfg) (nt : Nat) : Code → TM → Heap → Nat → (Out → TM → Heap → Nat → Option R) → Option R
  | .skip, tm, H, N, K => K .normal tm H N
  | .label _, tm, H, N, K => K .normal tm H N
  | .region id ops draw, tm, H, N, K => match lawOf F.laws (Nat.add 1000000 id) with
    | some h => h R tm H N K
    | none => bif draw then D R ops tm H N (K .normal) else opsA P C F.fl nt ops ops.toList tm H N (K .normal)
  | .seq a b, tm, H, N, K => codeA P C D F nt a tm H N fun o tm H N => match o with
    | .normal => codeA P C D F nt b tm H N K
    | o => K o tm H N
  | .cond c a b, tm, H, N, K => match evA tm c with
    | .bool v => cond v (codeA P C D F nt a (knowA nt c true tm) H N K) (codeA P C D F nt b (knowA nt c false tm) H N K)
    | _ => none
  | .block id c, tm, H, N, K => match lawOf F.laws id with
    | some h => h R tm H N K
    | none => codeA P C D F nt c tm H N fun o tm H N => match o with
      | .exit i => bif Nat.beq i id then K .normal tm H N else K (.exit i) tm H N
      | o => K o tm H N
  | .loop c, tm, H, N, K => loopA F.fl N F.roots (fun tm H N K => codeA P C D F nt c tm H N K) F.F tm H N K
  | .scope c, tm, H, N, K => codeA P C D F nt c tm H N K
  | .exit id, tm, H, N, K => K (.exit id) tm H N
  | .ret, tm, H, N, K => K .ret tm H N
  | _, _, _, _, _ => none

def resultsA (P : Program) (tm : TM) (H : Heap) : List ResultVar → (List AV → Option R) → Option R
  | [], K => K []
  | .tmp t :: r, K => resultsA P tm H r fun l => K (tm.get t :: l)
  | .cell a t :: r, K => match tm.get a, szOf P t with
    | .ptr p, some n => loadA H p n fun cs => aggOr P t cs fun v => resultsA P tm H r fun l => K (v :: l)
    | _, _ => none
def oneOf : List AV → AV
  | [v] => v
  | l => .tup l

/-- A function's body: its value, memory behind it. -/
def bodyA (P : Program) (C : Oracle) (D : Fl → Nat → Oracle → DrawA) (F : Cfg) (fn : Func) (args : List AV) (H : Heap) (N : Nat) (K : AV → Heap → Nat → Option R) : Option R :=
  match fn.body with
  | none => none
  | some c => bif Nat.ble args.length fn.ntmps then
      codeA P C (D F.fl fn.ntmps C) F fn.ntmps c (TM.ofArgs .nil 0 args) H N fun o tm H' N' => match o with
        | .exit _ => none
        | _ => resultsA P tm H' fn.results.toList fun l => K (oneOf l) H' N'
    else none

def pairs : Heap → Eff
  | [] => []
  | (x, b) :: h => pairs h ++ [(x, some b)]
/-- Old names that are gone. -/
def goneE (H' : Heap) : Heap → Eff
  | [] => []
  | (x, _) :: h => match H'.find x with
    | some _ => goneE H' h
    | none => (x, none) :: goneE H' h
def heapBelow (N : Nat) : Heap → Bool
  | [] => true
  | (x, b) :: h => Nat.blt x N && (allKept N [] (segNames b.segs) && heapBelow N h)
/-- A call by its body; names behind it in the normal form. -/
def inlineA (P : Program) (C : Oracle) (D : Fl → Nat → Oracle → DrawA) (F : Cfg) (fn : Func) (args : List AV) (H : Heap) (N : Nat) (K : AV → Eff → Nat → Option R) : Option R :=
  bif heapBelow N H && allKept N [] (AV.namesL args) then
    bodyA P C D F fn args H N fun v H' _ =>
      let live := liveOf N H' v.names
      bif nodupB live && aboveB N live && allKept N live v.names then K (v.ren (renN N live)) (goneE (keptH N live H') H ++ pairs (keptH N live H')) (N + live.length) else none
  else none
/-- Memory that may be read alone. -/
def readH : Heap → Heap
  | [] => []
  | (x, b) :: h => (x, { b with rw := false }) :: readH h
def allIn (live : List Nat) : List Nat → Bool
  | [] => true
  | x :: l => memB x live && allIn live l
def newE (N : Nat) (live : List Nat) (H' : Heap) : List Nat → Eff
  | [] => []
  | x :: l => match H'.find x with
    | some b => bif b.rw && allIn live (segNames b.segs) then (renN N live x, some { b with segs := segRen (renN N live) b.segs }) :: newE N live H' l else newE N live H' l
    | none => newE N live H' l
/-- A call by its body, that writes nothing that was there. -/
def quietA (P : Program) (C : Oracle) (D : Fl → Nat → Oracle → DrawA) (F : Cfg) (fn : Func) (args : List AV) (H : Heap) (N : Nat) (K : AV → Eff → Nat → Option R) : Option R :=
  bif heapBelow N H && allKept N [] (AV.namesL args) then
    bodyA P C D F fn args (readH H) N fun v H' _ =>
      let live := liveGo N H' 400 v.names []
      bif nodupB live && aboveB N live && allIn live v.names then K (v.ren (renN N live)) (newE N live H' live) (N + live.length) else none
  else none

end Go.Sx

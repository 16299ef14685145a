/- The abstract machine: values without addresses, a small store for what is written, and what one operation, one region and one body of code do. No program in it. -/
import Derived.Defers
import Derived.Orders
import Derived.KernelRfl
import Derived.Laws.Sem
set_option linter.unusedVariables false
set_option linter.unusedSimpArgs false
namespace Go.Abs

/-- What is known of a slice's capacity. -/
inductive LK where
  | nil | full | part
  deriving DecidableEq, Inhabited

/-- Abstract values. -/
inductive PV where
  | any
  | bool (b : Bool)
  | int (k : IntKind) (n : Int)
  | str (l : List UInt8)
  | nilptr
  | ptr (b g i off : Nat)
  | eptr (e : PV) (off : Nat)
  | list (k : LK) (xs : List PV)
  | sref (b g sz off len : Nat)
  | nilmap
  | mref (b : Nat)
  | func (f : FuncId) (cap : List PV)
  | nilfunc
  | iface (t : TypeId) (v : PV)
  | nilIface
  | agg (cs : List PV)
  | tuple (vs : List PV)
  deriving Inhabited

inductive Blk where
  | arr (g sz : Nat) (xs : List PV)
  | map (v : Nat) (es : List (PV × PV))
  | iter (m : Option (Nat × Nat)) (last : Option Nat) (left : List Nat)
  | dead
  deriving Inhabited

abbrev St := List Blk

/-- What stands in a slot: a value, or the place of a variable of this frame. -/
inductive EV where
  | v (x : PV)
  | loc (s off : Nat)
  deriving Inhabited

inductive Res where
  | ret (v : PV)
  | pan (v : PV)

structure Fr where
  env : Nat → EV
  loc : Nat → PV
  dfr : List (FuncId × List PV)

inductive Out where
  | normal
  | exit (id : Nat)
  | ret
  | pan (v : PV)

def PV.cells? : PV → Option (List PV)
  | .any => none
  | .tuple _ => none
  | .agg cs => some cs
  | x => some [x]

def ofVal1 : Value → PV
  | .bool b => .bool b
  | .int k n => .int k n
  | .string s => .str s.data.toList
  | .pointer a => match a with
    | none => .nilptr
    | some _ => .any
  | .slice a l c => match a with
    | none => if l = 0 ∧ c = 0 then .list .nil [] else .any
    | some _ => .any
  | .map r => match r with
    | none => .nilmap
    | some _ => .any
  | .func fn a c => match fn with
    | .func f => if a.size = 0 ∧ c.size = 0 then .func f [] else .any
    | _ => .any
  | .nilFunc => .nilfunc
  | .nilIface => .nilIface
  | _ => .any

def ofVal : Value → PV
  | .agg cs => if cs.toList.all (·.oneCell') then .agg (cs.toList.map ofVal1) else .any
  | .tuple vs => if vs.size = 0 then .tuple [] else .any
  | v => ofVal1 v

/-! ### The wrappers of the operations -/

def bindO {α ρ : Type} (fail : ρ) : Option α → (α → ρ) → ρ
  | some a, K => K a
  | none, _ => fail

def vPart (agg : Bool) (sz : Nat) (e : PV) (off : Nat) : Option PV :=
  match agg with
  | true =>
    match e with
    | .agg cs => if off = 0 ∧ cs.length = sz then some (.agg cs) else if off + sz ≤ cs.length then some (.agg ((cs.drop off).take sz)) else none
    | _ => none
  | false =>
    match e.cells? with
    | some cs => cs[off]?
    | none => none

def vLoad (agg : Bool) (sz : Nat) (p : PV) (σ : St) : Option PV :=
  match p with
  | .eptr e off => vPart agg sz e off
  | .ptr b g i off =>
    match σ[b]? with
    | some (.arr g' _ xs) => if g = g' then (match xs[i]? with | some e => vPart agg sz e off | none => none) else none
    | _ => none
  | _ => none

def setRange (cs : List PV) (off : Nat) (ws : List PV) : List PV := cs.take off ++ ws ++ cs.drop (off + ws.length)

def vPut (sz : Nat) (e : PV) (off : Nat) (x : PV) : Option PV :=
  match x.cells? with
  | none => none
  | some ws =>
    if ws.length = sz then
      match e with
      | .agg cs => if off + sz ≤ cs.length then some (.agg (setRange cs off ws)) else none
      | .any => none
      | .tuple _ => none
      | _ => if off = 0 ∧ sz = 1 then ws.head? else none
    else none

def vStore (sz : Nat) (p x : PV) (σ : St) : Option St :=
  match p with
  | .ptr b g i off =>
    match σ[b]? with
    | some (.arr g' z xs) =>
      if g = g' then
        match xs[i]? with
        | some e => match vPut sz e off x with
          | some e' => some (σ.set b (.arr g' z (xs.set i e')))
          | none => none
        | none => none
      else none
    | _ => none
  | _ => none

def vField (o : Nat) (p : PV) : Option PV :=
  match p with
  | .ptr b g i off => some (.ptr b g i (off + o))
  | .eptr e off => some (.eptr e (off + o))
  | _ => none

def vIndex (sz : Nat) (x i : PV) : Option PV :=
  match x, i with
  | .list _ xs, .int _ n =>
    if 0 ≤ n then
      match xs[n.toNat]? with
      | some e => match e.cells? with
        | some cs => if cs.length = sz then some (.eptr e 0) else none
        | none => none
      | none => none
    else none
  | .sref b g z off len, .int _ n => if 0 ≤ n ∧ n < len ∧ z = sz then some (.ptr b g (off + n.toNat) 0) else none
  | _, _ => none

def vIndexArr (sz n : Nat) (p i : PV) : Option PV :=
  match i with
  | .int _ j => if 0 ≤ j ∧ j < n then vField (j.toNat * sz) p else none
  | _ => none

/-- s[i] of a string. -/
def vStrAt (x i : PV) : Option PV :=
  match x, i with
  | .str l, .int _ n => if 0 ≤ n then (match l[n.toNat]? with | some b => some (.int .u8 b.toNat) | none => none) else none
  | _, _ => none

/-- a[i] of an array's value. -/
def vArrAt (agg : Bool) (sz n : Nat) (x i : PV) : Option PV :=
  match i with
  | .int _ j => if 0 ≤ j ∧ j < n then vPart agg sz x (j.toNat * sz) else none
  | _ => none

def vBox (sz : Nat) (x : PV) : Option PV :=
  match x.cells? with
  | some cs => if cs.length = sz then some x else none
  | none => none

def vBuild : List PV → List (Nat × Nat × PV) → Option (List PV)
  | cs, [] => some cs
  | cs, (off, sz, x) :: rest =>
    match x.cells? with
    | some ws => if ws.length = sz ∧ off + sz ≤ cs.length then vBuild (setRange cs off ws) rest else none
    | none => none

def vBuildSl (sz : Nat) : List PV → List (Nat × PV) → Option (List PV)
  | xs, [] => some xs
  | xs, (i, x) :: rest =>
    match x.cells? with
    | some ws => if ws.length = sz ∧ i < xs.length then vBuildSl sz (xs.set i x) rest else none
    | none => none

def bound (x : Option PV) (dflt : Nat) : Option Nat :=
  match x with
  | none => some dflt
  | some (.int _ n) => if 0 ≤ n then some n.toNat else none
  | some _ => none

def headSized (sz : Nat) (xs : List PV) : Bool :=
  match xs with
  | [] => true
  | x :: _ => match x.cells? with
    | some cs => cs.length == sz
    | none => false

/-- A part of a string. -/
def vSubStr (x : PV) (lo hi : Option PV) : Option PV :=
  match x with
  | .str l =>
    match bound lo 0, bound hi l.length with
    | some a, some b => if a ≤ b ∧ b ≤ l.length then some (.str ((l.take b).drop a)) else none
    | _, _ => none
  | _ => none

/-- The capacity of a part: 'all': it ends where the whole ends. -/
def LK.sub (k : LK) (all : Bool) : LK :=
  match k with
  | .nil => .nil
  | .full => if all then .full else .part
  | .part => .part

/-- A part of a slice. -/
def vSubSl (sz : Nat) (x : PV) (lo hi : Option PV) : Option PV :=
  match x with
  | .list k xs =>
    match bound lo 0, bound hi xs.length with
    | some a, some b => if a ≤ b ∧ b ≤ xs.length ∧ headSized sz xs = true then some (.list (k.sub (b == xs.length)) ((xs.take b).drop a)) else none
    | _, _ => none
  | .sref b g z off len =>
    match bound lo 0, bound hi len with
    | some a, some b' => if z = sz ∧ a < b' ∧ b' ≤ len then some (.sref b g z (off + a) (b' - a)) else if a = b' ∧ b' ≤ len then some (.list .part []) else none
    | _, _ => none
  | _ => none

def vElems (x : PV) (σ : St) : Option (List PV) :=
  match x with
  | .list _ xs => some xs
  | .str l => some (l.map fun b => .int .u8 b.toNat)
  | .sref b g z off len =>
    match σ[b]? with
    | some (.arr g' _ xs) => if g = g' ∧ off + len ≤ xs.length then some ((xs.drop off).take len) else none
    | _ => none
  | _ => none

def roomy (n bytes : Nat) : Bool := n * bytes ≤ 140737488355328

def vAppend (sz bytes : Nat) (s y : PV) (σ : St) : Option (PV × St) :=
  match vElems y σ with
  | none => none
  | some ys =>
    match s with
    | .list k xs =>
      if ys.isEmpty then some (.list k xs, σ)
      else if k ≠ .part ∧ roomy (xs.length + ys.length) bytes = true ∧ headSized sz xs = true ∧ headSized sz ys = true then
        some (.sref σ.length 0 sz 0 (xs.length + ys.length), σ ++ [.arr 0 sz (xs ++ ys)])
      else none
    | .sref b g z off len =>
      if ys.isEmpty then some (.sref b g z off len, σ)
      else
        match σ[b]? with
        | some (.arr g' _ xs) =>
          if g = g' ∧ z = sz ∧ off + len ≤ xs.length ∧ roomy (len + ys.length) bytes = true ∧ headSized sz ys = true then
            some (.sref b (g + 1) sz 0 (len + ys.length), σ.set b (.arr (g + 1) sz ((xs.drop off).take len ++ ys)))
          else none
        | _ => none
    | _ => none

def vMakeSl (sz bytes : Nat) (zero : PV) (len cap : PV) (σ : St) : Option (PV × St) :=
  match len, cap with
  | .int _ l, .int _ c =>
    if 0 ≤ l ∧ l = c ∧ roomy c.toNat bytes = true then
      match vBox sz zero with
      | some z => some (.sref σ.length 0 sz 0 l.toNat, σ ++ [.arr 0 sz (List.replicate l.toNat z)])
      | none => none
    else none
  | _, _ => none

inductive LenK where
  | str | sl | map
  deriving DecidableEq

def vLen (k : LenK) (x : PV) (σ : St) : Option PV :=
  match k, x with
  | .str, .str l => some (.int .i64 l.length)
  | .sl, .list _ xs => some (.int .i64 xs.length)
  | .sl, .sref _ _ _ _ len => some (.int .i64 len)
  | .map, .nilmap => some (.int .i64 0)
  | .map, .mref b => match σ[b]? with
    | some (.map _ es) => some (.int .i64 es.length)
    | _ => none
  | _, _ => none

/-- What '==' goes by: the kind of the type. -/
inductive EK1 where
  | bool | int | str
  deriving DecidableEq
inductive EK where
  | bool | ptr | sl | map | fn | ifc
  | st (ks : List EK1)
  deriving DecidableEq

def vEqS (k : EK1) (x y : PV) : Option Bool :=
  match k, x, y with
  | .bool, .bool a, .bool b => some (a == b)
  | .int, .int k a, .int k' b => if k = k' then some (a == b) else none
  | .str, .str a, .str b => some (a == b)
  | _, _, _ => none

def vEqL : List EK1 → List PV → List PV → Option Bool
  | [], [], [] => some true
  | k :: ks, x :: xs, y :: ys =>
    match vEqS k x y with
    | some true => vEqL ks xs ys
    | some false => some false
    | none => none
  | _, _, _ => none

def vEq (k : EK) (x y : PV) : Option Bool :=
  match k, x, y with
  | .st ks, .agg xs, .agg ys => vEqL ks xs ys
  | .bool, .bool a, .bool b => some (a == b)
  | .ptr, .nilptr, .nilptr => some true
  | .ptr, .nilptr, .ptr .. => some false
  | .ptr, .nilptr, .eptr .. => some false
  | .ptr, .ptr .., .nilptr => some false
  | .ptr, .eptr .., .nilptr => some false
  | .sl, .list k _, .list .nil _ => some (k == .nil)
  | .sl, .sref .., .list .nil _ => some false
  | .map, .nilmap, .nilmap => some true
  | .map, .mref _, .nilmap => some false
  | .fn, .nilfunc, .nilfunc => some true
  | .fn, .func .., .nilfunc => some false
  | .ifc, .nilIface, .nilIface => some true
  | .ifc, .nilIface, .iface .. => some false
  | .ifc, .iface .., .nilIface => some false
  | _, _, _ => none

def vArith (op : BinOp) (k : IntKind) (a b : Int) : Option PV :=
  match op with
  | .add => some (.int k (k.wrap (a + b)))
  | .sub => some (.int k (k.wrap (a - b)))
  | .mul => some (.int k (k.wrap (a * b)))
  | .quo => if b = 0 then none else some (.int k (k.wrap (a.tdiv b)))
  | .rem => if b = 0 then none else some (.int k (a.tmod b))
  | .and => some (.int k (k.wrap (BitVec.ofInt k.bits a &&& BitVec.ofInt k.bits b).toNat))
  | .or => some (.int k (k.wrap (BitVec.ofInt k.bits a ||| BitVec.ofInt k.bits b).toNat))
  | .xor => some (.int k (k.wrap (BitVec.ofInt k.bits a ^^^ BitVec.ofInt k.bits b).toNat))
  | .andNot => some (.int k (k.wrap (BitVec.ofInt k.bits a &&& ~~~BitVec.ofInt k.bits b).toNat))
  | .lss => some (.bool (decide (a < b)))
  | .leq => some (.bool (decide (a ≤ b)))
  | .gtr => some (.bool (decide (a > b)))
  | .geq => some (.bool (decide (a ≥ b)))
  | .eql => some (.bool (a == b))
  | .neq => some (.bool (a != b))
  | _ => none

def vShift (op : BinOp) (k : IntKind) (a b : Int) : Option PV :=
  if b < 0 then none else
  match op with
  | .shl => some (.int k (k.wrap (a * 2 ^ (min b.toNat k.bits))))
  | .shr => some (.int k (a.fdiv (2 ^ (min b.toNat k.bits))))
  | _ => none

def vStrOp (op : BinOp) (a b : List UInt8) : Option PV :=
  match op with
  | .add => if a.length + b.length ≤ 4611686018427387904 then some (.str (a ++ b)) else none
  | .eql => some (.bool (a == b))
  | .neq => some (.bool !(a == b))
  | .lss => some (.bool (Op.bytesLess a b))
  | .leq => some (.bool (Op.bytesLess a b || a == b))
  | .gtr => some (.bool !(Op.bytesLess a b || a == b))
  | .geq => some (.bool !(Op.bytesLess a b))
  | _ => none

/-- The operators. -/
def vBin (ek : Option EK) (op : BinOp) (x y : PV) : Option PV :=
  match op, x, y with
  | .shl, .int k a, .int _ b => vShift .shl k a b
  | .shr, .int k a, .int _ b => vShift .shr k a b
  | op, .int k a, .int k' b => if k = k' then vArith op k a b else none
  | op, .str a, .str b => vStrOp op a b
  | .eql, x, y => match ek with
    | some k => (match vEq k x y with | some b => some (.bool b) | none => none)
    | none => none
  | .neq, x, y => match ek with
    | some k => (match vEq k x y with | some b => some (.bool !b) | none => none)
    | none => none
  | _, _, _ => none

def vUn (op : UnOp) (x : PV) : Option PV :=
  match op, x with
  | .not, .bool b => some (.bool !b)
  | .neg, .int k n => some (.int k (k.wrap (0 - n)))
  | _, _ => none

def vPick (c a b : PV) : Option PV :=
  match c with
  | .bool true => some a
  | .bool false => some b
  | _ => none

def vConv (k : IntKind) (x : PV) : Option PV :=
  match x with
  | .int _ n => some (.int k (k.wrap n))
  | _ => none

def vExtract (x : PV) (i : Nat) : Option PV :=
  match x with
  | .tuple vs => vs[i]?
  | _ => none

def vNil (x : PV) : Option PV :=
  match x with
  | .ptr b g i o => some (.ptr b g i o)
  | .eptr e o => some (.eptr e o)
  | .func f c => some (.func f c)
  | _ => none

/-! ### Maps -/

/-- The entry with a key: none: the keys cannot be compared. -/
def vFind (k : EK1) (key : PV) : List (PV × PV) → Nat → Option (Option (Nat × PV))
  | [], _ => some none
  | e :: es, i => match vEqS k key e.1 with
    | some true => some (some (i, e.2))
    | some false => vFind k key es (i + 1)
    | none => none

def isKey (k : EK1) (key : PV) : Bool :=
  match k, key with
  | .bool, .bool _ => true
  | .int, .int .. => true
  | .str, .str _ => true
  | _, _ => false

def vLookup (k : EK1) (z : PV) (ok : Bool) (m key : PV) (σ : St) : Option PV :=
  match m with
  | .nilmap => if isKey k key then some (if ok then .tuple [z, .bool false] else z) else none
  | .mref b => match σ[b]? with
    | some (.map _ es) => if isKey k key then (match vFind k key es 0 with
      | some (some (_, v)) => some (if ok then .tuple [v, .bool true] else v)
      | some none => some (if ok then .tuple [z, .bool false] else z)
      | none => none) else none
    | _ => none
  | _ => none

def vMapSet (k : EK1) (m key v : PV) (σ : St) : Option St :=
  match m with
  | .mref b => match σ[b]? with
    | some (.map n es) => if isKey k key then (match vFind k key es 0 with
      | some (some (i, _)) => some (σ.set b (.map (n + 1) (es.set i (key, v))))
      | some none => some (σ.set b (.map (n + 1) (es ++ [(key, v)])))
      | none => none) else none
    | _ => none
  | _ => none

def vMapDel (k : EK1) (m key : PV) (σ : St) : Option St :=
  match m with
  | .mref b => match σ[b]? with
    | some (.map n es) => if isKey k key then (match vFind k key es 0 with
      | some (some (i, _)) => some (σ.set b (.map (n + 1) (es.eraseIdx i)))
      | some none => some (σ.set b (.map (n + 1) es))
      | none => none) else none
    | _ => none
  | _ => none

def vRange (m : PV) (σ : St) : Option (PV × St) :=
  match m with
  | .nilmap => some (.ptr σ.length 0 0 0, σ ++ [.iter none none []])
  | .mref b => match σ[b]? with
    | some (.map n es) => some (.ptr σ.length 0 0 0, σ ++ [.iter (some (b, n)) none (List.range es.length)])
    | _ => none
  | _ => none

/-- The steps that a range over a map may take. -/
def vNexts (p : PV) (σ : St) : Option (List (PV × St)) :=
  match p with
  | .ptr b 0 0 0 => match σ[b]? with
    | some (.iter none _ _) => some [(.tuple [.bool false], σ)]
    | some (.iter (some (mb, n)) last left) => (match σ[mb]? with
      | some (.map n' es) => if n' = n then
          match left with
          | [] => some [(.tuple [.bool false], σ)]
          | _ => some (left.map fun i => (.tuple [.bool true, .any, .any], σ.set b (.iter (some (mb, n)) (some i) (left.erase i))))
        else none
      | _ => none)
    | _ => none
  | _ => none

def vEntry (p : PV) (σ : St) : Option PV :=
  match p with
  | .ptr b 0 0 0 => match σ[b]? with
    | some (.iter (some (mb, n)) (some i) _) => (match σ[mb]? with
      | some (.map n' es) => if n' = n then (match es[i]? with
        | some e => some (.tuple [e.1, e.2])
        | none => none) else none
      | _ => none)
    | _ => none
  | _ => none

def vMin (x y : PV) : Option PV :=
  match x, y with
  | .int k a, .int k' b => if k = k' then some (.int k (if b < a then b else a)) else none
  | _, _ => none

def vMax (x y : PV) : Option PV :=
  match x, y with
  | .int k a, .int k' b => if k = k' then some (.int k (if a < b then b else a)) else none
  | _, _ => none

/-- x.(T), T no interface. -/
def vAssert (t : TypeId) (z : PV) (ok : Bool) (x : PV) : Option PV :=
  match x with
  | .iface t' v => if t' = t then some (if ok then .tuple [v, .bool true] else v) else if ok then some (.tuple [z, .bool false]) else none
  | .nilIface => if ok then some (.tuple [z, .bool false]) else none
  | _ => none

end Go.Abs

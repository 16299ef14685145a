import Derived.Defers
import Derived.Orders
import Derived.KernelRfl
import Derived.Laws.Sem
import Derived.Test.YteikomnahelckaaGreatDoorGlob
set_option linter.unusedVariables false
set_option linter.unusedSimpArgs false
namespace Go.Abs
inductive Blk where
 | arr (g sz : Nat) (xs : List PV)
 | map (v : Nat) (es : List (PV × PV))
 | iter (m : Option (Nat × Nat)) (last : Option Nat) (left : List Nat)
 | dead
 deriving Inhabited
abbrev St := List Blk
inductive EV where
 | v (x : PV)
 | loc (s off : Nat)
 deriving Inhabited
inductive Res where
 | ret (v : PV)
 | pan (v : PV)
structure Fr where
 env : Nat → EV
 loc : Nat → PV
 dfr : List (FuncId × List PV)
inductive Out where
 | normal
 | exit (id : Nat)
 | ret
 | pan (v : PV)
def PV.cells? : PV → Option (List PV)
 | .any => none
 | .tuple _ => none
 | .agg cs => some cs
 | x => some [x]
def ofVal1 : Value → PV
 | .bool b => .bool b
 | .int k n => .int k n
 | .string s => .str s.data.toList
 | .pointer a => match a with
  | none => .nilptr
  | some _ => .any
 | .slice a l c => match a with
  | none => if l = 0 ∧ c = 0 then .list .nil [] else .any
  | some _ => .any
 | .map r => match r with
  | none => .nilmap
  | some _ => .any
 | .func fn a c => match fn with
  | .func f => if a.size = 0 ∧ c.size = 0 then .func f 0 [] else .any
  | _ => .any
 | .nilFunc => .nilfunc
 | .nilIface => .nilIface
 | _ => .any
def ofVal : Value → PV
 | .agg cs => if cs.toList.all (·.oneCell') then .agg (cs.toList.map ofVal1) else .any
 | .tuple vs => if vs.size = 0 then .tuple [] else .any
 | v => ofVal1 v
def bindO {α ρ : Type} (fail : ρ) : Option α → (α → ρ) → ρ
 | some a,K => K a
 | none,_ => fail
def vPart (agg : Bool) (sz : Nat) (e : PV) (off : Nat) : Option PV :=
 match agg with
 | true =>
  match e with
  | .agg cs => if off = 0 ∧ cs.length = sz then some (.agg cs) else if off + sz ≤ cs.length then some (.agg ((cs.drop off).take sz)) else none
  | _ => none
 | false =>
  match e.cells? with
  | some cs => cs[off]?
  | none => none
def vLoad (agg : Bool) (sz : Nat) (p : PV) (σ : St) : Option PV :=
 match p with
 | .eptr e off => vPart agg sz e off
 | .ptr b g i off =>
  match σ[b]? with
  | some (.arr g' _ xs) => if g = g' then (match xs[i]? with | some e => vPart agg sz e off | none => none) else none
  | _ => none
 | _ => none
def setRange (cs : List PV) (off : Nat) (ws : List PV) : List PV := cs.take off ++ ws ++ cs.drop (off + ws.length)
def vPut (sz : Nat) (e : PV) (off : Nat) (x : PV) : Option PV :=
 match x.cells? with
 | none => none
 | some ws =>
  if ws.length = sz then
   match e with
   | .agg cs => if off + sz ≤ cs.length then some (.agg (setRange cs off ws)) else none
   | .any => none
   | .tuple _ => none
   | _ => if off = 0 ∧ sz = 1 then ws.head? else none
  else none
def vStore (sz : Nat) (p x : PV) (σ : St) : Option St :=
 match p with
 | .ptr b g i off =>
  match σ[b]? with
  | some (.arr g' z xs) =>
   if g = g' then
    match xs[i]? with
    | some e => match vPut sz e off x with
     | some e' => some (σ.set b (.arr g' z (xs.set i e')))
     | none => none
    | none => none
   else none
  | _ => none
 | _ => none
def vField (o : Nat) (p : PV) : Option PV :=
 match p with
 | .ptr b g i off => some (.ptr b g i (off + o))
 | .eptr e off => some (.eptr e (off + o))
 | _ => none
def vIndex (sz : Nat) (x i : PV) : Option PV :=
 match x,i with
 | .list _ xs,.int _ n =>
  if 0 ≤ n then
   match xs[n.toNat]? with
   | some e => match e.cells? with
    | some cs => if cs.length = sz then some (.eptr e 0) else none
    | none => none
   | none => none
  else none
 | .sref b g z off len,.int _ n => if 0 ≤ n ∧ n < len ∧ z = sz then some (.ptr b g (off + n.toNat) 0) else none
 | _,_ => none
def vArrOff (sz n : Nat) (i : PV) : Option Nat :=
 match i with
 | .int _ j => if 0 ≤ j ∧ j < n then some (j.toNat * sz) else none
 | _ => none
def rngM (f : Nat → Option PV) : Nat → Option (List PV)
 | 0 => some []
 | n + 1 => match rngM f n with
  | some l => match f n with
   | some x => some (l ++ [x])
   | none => none
  | none => none
def vSubArr (ag : Bool) (sz n : Nat) (p : PV) : Option PV :=
 match p with
 | .eptr e off => match rngM (fun i => vPart ag sz e (off + i * sz)) n with
  | some xs => some (.list .part xs)
  | none => none
 | _ => none
def vStrAt (x i : PV) : Option PV :=
 match x,i with
 | .str l,.int _ n => if 0 ≤ n then (match l[n.toNat]? with | some b => some (.int .u8 b.toNat) | none => none) else none
 | _,_ => none
def vBox (sz : Nat) (x : PV) : Option PV :=
 match x.cells? with
 | some cs => if cs.length = sz then some x else none
 | none => none
def vBuild : List PV → List (Nat × Nat × PV) → Option (List PV)
 | cs,[] => some cs
 | cs,(off,sz,x) :: rest =>
  match x.cells? with
  | some ws => if ws.length = sz ∧ off + sz ≤ cs.length then vBuild (setRange cs off ws) rest else none
  | none => none
def vBuildSl (sz : Nat) : List PV → List (Nat × PV) → Option (List PV)
 | xs,[] => some xs
 | xs,(i,x) :: rest =>
  match x.cells? with
  | some ws => if ws.length = sz ∧ i < xs.length then vBuildSl sz (xs.set i x) rest else none
  | none => none
def bound (x : Option PV) (dflt : Nat) : Option Nat :=
 match x with
 | none => some dflt
 | some (.int _ n) => if 0 ≤ n then some n.toNat else none
 | some _ => none
def headSized (sz : Nat) (xs : List PV) : Bool :=
 match xs with
 | [] => true
 | x :: _ => match x.cells? with
  | some cs => cs.length == sz
  | none => false
def vSubStr (x : PV) (lo hi : Option PV) : Option PV :=
 match x with
 | .str l =>
  match bound lo 0,bound hi l.length with
  | some a,some b => if a ≤ b ∧ b ≤ l.length then some (.str ((l.take b).drop a)) else none
  | _,_ => none
 | _ => none
def LK.sub (k : LK) (all : Bool) : LK :=
 match k with
 | .nil => .nil
 | .full => if all then .full else .part
 | .part => .part
def vClip (x : PV) : Option PV :=
 match x with
 | .list .nil [] => some (.list .nil [])
 | .list _ [] => some (.list .part [])
 | .list _ (_ :: _) => some (.list .full [])
 | .sref .. => some (.list .full [])
 | _ => none
def vSubSl (sz : Nat) (x : PV) (lo hi : Option PV) : Option PV :=
 match x with
 | .list k xs =>
  match bound lo 0,bound hi xs.length with
  | some a,some b => if a ≤ b ∧ b ≤ xs.length ∧ headSized sz xs = true then some (.list (k.sub (b == xs.length)) ((xs.take b).drop a)) else none
  | _,_ => none
 | .sref b g z off len =>
  match bound lo 0,bound hi len with
  | some a,some b' => if z = sz ∧ a ≤ b' ∧ b' ≤ len ∧ a < len then some (.sref b g z (off + a) (b' - a)) else if a = b' ∧ b' ≤ len then some (.list .part []) else none
  | _,_ => none
 | _ => none
def vElems (x : PV) (σ : St) : Option (List PV) :=
 match x with
 | .list _ xs => some xs
 | .str l => some (l.map fun b => .int .u8 b.toNat)
 | .sref b g z off len =>
  match σ[b]? with
  | some (.arr g' _ xs) => if g = g' ∧ off + len ≤ xs.length then some ((xs.drop off).take len) else none
  | _ => none
 | _ => none
def roomy (n bytes : Nat) : Bool := n * bytes ≤ 140737488355328
def tyG (g : Nat) : Nat := g % 4194304 / 4
def nextG (g : Nat) : Nat := (g / 4 + 1) * 4
def nextT (tg g off : Nat) : Nat := if tg ≠ 0 ∧ g % 4194304 = tg ∧ off = 0 then g + 4194304 else nextG g
def vAppend (sz bytes : Nat) (s y : PV) (σ : St) : Option (PV × St) :=
 match vElems y σ with
 | none => none
 | some ys =>
  match s with
  | .list k xs =>
   if ys.isEmpty then some (.list k xs,σ)
   else if k ≠ .part ∧ roomy (xs.length + ys.length) bytes = true ∧ headSized sz xs = true ∧ headSized sz ys = true then
    some (.sref σ.length 0 sz 0 (xs.length + ys.length),σ ++ [.arr 0 sz (xs ++ ys)])
   else none
  | .sref b g z off len =>
   if ys.isEmpty then some (.sref b g z off len,σ)
   else
    match σ[b]? with
    | some (.arr g' _ xs) =>
     if g = g' ∧ z = sz ∧ off + len ≤ xs.length ∧ roomy (len + ys.length) bytes = true ∧ headSized sz ys = true then
      if off + len + ys.length ≤ xs.length then some (.sref b g sz off (len + ys.length),σ.set b (.arr g sz (xs.take (off + len) ++ ys ++ xs.drop (off + len + ys.length))))
      else some (.sref b (nextG g) sz 0 (len + ys.length),σ.set b (.arr (nextG g) sz ((xs.drop off).take len ++ ys)))
     else none
    | _ => none
  | _ => none
def vAppendT (tg sz bytes : Nat) (s y : PV) (σ : St) : Option (PV × St) :=
 match vElems y σ with
 | none => none
 | some ys =>
  match s with
  | .list k xs =>
   if ys.isEmpty then some (.list k xs,σ)
   else if k ≠ .part ∧ roomy (xs.length + ys.length) bytes = true ∧ headSized sz xs = true ∧ headSized sz ys = true then
    some (.sref σ.length tg sz 0 (xs.length + ys.length),σ ++ [.arr tg sz (xs ++ ys)])
   else none
  | .sref b g z off len =>
   if ys.isEmpty then some (.sref b g z off len,σ)
   else
    match σ[b]? with
    | some (.arr g' _ xs) =>
     if g = g' ∧ z = sz ∧ off + len ≤ xs.length ∧ roomy (len + ys.length) bytes = true ∧ headSized sz ys = true then
      if off + len + ys.length ≤ xs.length then some (.sref b g sz off (len + ys.length),σ.set b (.arr g sz (xs.take (off + len) ++ ys ++ xs.drop (off + len + ys.length))))
      else some (.sref b (nextT tg g off) sz 0 (len + ys.length),σ.set b (.arr (nextT tg g off) sz ((xs.drop off).take len ++ ys)))
     else none
    | _ => none
  | _ => none
def vAppendMk (sz bytes : Nat) (z s y : PV) (σ : St) : Option (PV × St) :=
 match s,y with
 | .list .nil [],.int _ n => if 0 < n ∧ roomy n.toNat bytes = true then some (.sref σ.length 0 sz 0 n.toNat,σ ++ [.arr 0 sz (List.replicate n.toNat z)]) else none
 | _,_ => none
theorem vAppendT_zero (sz bytes : Nat) (s y : PV) (σ : St) : vAppendT 0 sz bytes s y σ = vAppend sz bytes s y σ := by
 simp only [vAppendT,vAppend,nextT,ne_eq,not_true,false_and,if_false]
def vMakeSl (sz bytes : Nat) (zero : PV) (len cap : PV) (σ : St) : Option (PV × St) :=
 match len,cap with
 | .int _ l,.int _ c =>
  if 0 ≤ l ∧ l = c ∧ roomy c.toNat bytes = true then
   match vBox sz zero with
   | some z => some (.sref σ.length 0 sz 0 l.toNat,σ ++ [.arr 0 sz (List.replicate l.toNat z)])
   | none => none
  else none
 | _,_ => none
inductive LenK where
 | str | sl | map
 deriving DecidableEq
def vLen (k : LenK) (x : PV) (σ : St) : Option PV :=
 match k,x with
 | .str,.str l => some (.int .i64 l.length)
 | .sl,.list _ xs => some (.int .i64 xs.length)
 | .sl,.sref _ _ _ _ len => some (.int .i64 len)
 | .map,.nilmap => some (.int .i64 0)
 | .map,.mref b => match σ[b]? with
  | some (.map _ es) => some (.int .i64 es.length)
  | _ => none
 | _,_ => none
inductive EK1 where
 | bool | int | str
 deriving DecidableEq
inductive EK where
 | bool | ptr | sl | map | fn | ifc
 | st (ks : List EK1)
 deriving DecidableEq
def vEqS (k : EK1) (x y : PV) : Option Bool :=
 match k,x,y with
 | .bool,.bool a,.bool b => some (a == b)
 | .int,.int k a,.int k' b => if k = k' then some (a == b) else none
 | .str,.str a,.str b => some (a == b)
 | _,_,_ => none
def vEqL : List EK1 → List PV → List PV → Option Bool
 | [],[],[] => some true
 | k :: ks,x :: xs,y :: ys =>
  match vEqS k x y with
  | some true => vEqL ks xs ys
  | some false => some false
  | none => none
 | _,_,_ => none
def vEq (k : EK) (x y : PV) : Option Bool :=
 match k,x,y with
 | .st ks,.agg xs,.agg ys => vEqL ks xs ys
 | .bool,.bool a,.bool b => some (a == b)
 | .ptr,.nilptr,.nilptr => some true
 | .ptr,.nilptr,.ptr .. => some false
 | .ptr,.nilptr,.eptr .. => some false
 | .ptr,.ptr ..,.nilptr => some false
 | .ptr,.eptr ..,.nilptr => some false
 | .sl,.list k _,.list .nil _ => some (k == .nil)
 | .sl,.sref ..,.list .nil _ => some false
 | .map,.nilmap,.nilmap => some true
 | .map,.mref _,.nilmap => some false
 | .fn,.nilfunc,.nilfunc => some true
 | .fn,.func ..,.nilfunc => some false
 | .ifc,.nilIface,.nilIface => some true
 | .ifc,.nilIface,.iface .. => some false
 | .ifc,.iface ..,.nilIface => some false
 | _,_,_ => none
def vArith (op : BinOp) (k : IntKind) (a b : Int) : Option PV :=
 match op with
 | .add => some (.int k (k.wrap (a + b)))
 | .sub => some (.int k (k.wrap (a - b)))
 | .mul => some (.int k (k.wrap (a * b)))
 | .quo => if b = 0 then none else some (.int k (k.wrap (a.tdiv b)))
 | .rem => if b = 0 then none else some (.int k (a.tmod b))
 | .and => some (.int k (k.wrap (BitVec.ofInt k.bits a &&& BitVec.ofInt k.bits b).toNat))
 | .or => some (.int k (k.wrap (BitVec.ofInt k.bits a ||| BitVec.ofInt k.bits b).toNat))
 | .xor => some (.int k (k.wrap (BitVec.ofInt k.bits a ^^^ BitVec.ofInt k.bits b).toNat))
 | .andNot => some (.int k (k.wrap (BitVec.ofInt k.bits a &&& ~~~BitVec.ofInt k.bits b).toNat))
 | .lss => some (.bool (decide (a < b)))
 | .leq => some (.bool (decide (a ≤ b)))
 | .gtr => some (.bool (decide (a > b)))
 | .geq => some (.bool (decide (a ≥ b)))
 | .eql => some (.bool (a == b))
 | .neq => some (.bool (a != b))
 | _ => none
def vShift (op : BinOp) (k : IntKind) (a b : Int) : Option PV :=
 if b < 0 then none else
 match op with
 | .shl => some (.int k (k.wrap (a * 2 ^ (min b.toNat k.bits))))
 | .shr => some (.int k (a.fdiv (2 ^ (min b.toNat k.bits))))
 | _ => none
def vStrOp (op : BinOp) (a b : List UInt8) : Option PV :=
 match op with
 | .add => if a.length + b.length ≤ 4611686018427387904 then some (.str (a ++ b)) else none
 | .eql => some (.bool (a == b))
 | .neq => some (.bool !(a == b))
 | .lss => some (.bool (Op.bytesLess a b))
 | .leq => some (.bool (Op.bytesLess a b || a == b))
 | .gtr => some (.bool !(Op.bytesLess a b || a == b))
 | .geq => some (.bool !(Op.bytesLess a b))
 | _ => none
def vBin (ek : Option EK) (op : BinOp) (x y : PV) : Option PV :=
 match op,x,y with
 | .shl,.int k a,.int _ b => vShift .shl k a b
 | .shr,.int k a,.int _ b => vShift .shr k a b
 | op,.int k a,.int k' b => if k = k' then vArith op k a b else none
 | op,.str a,.str b => vStrOp op a b
 | .eql,x,y => match ek with
  | some k => (match vEq k x y with | some b => some (.bool b) | none => none)
  | none => none
 | .neq,x,y => match ek with
  | some k => (match vEq k x y with | some b => some (.bool !b) | none => none)
  | none => none
 | _,_,_ => none
def vUn (op : UnOp) (x : PV) : Option PV :=
 match op,x with
 | .not,.bool b => some (.bool !b)
 | .neg,.int k n => some (.int k (k.wrap (0 - n)))
 | .xor,.int k n => vArith .xor k (if k.signed then -1 else k.max) n
 | _,_ => none
def vPick (c a b : PV) : Option PV :=
 match c with
 | .bool true => some a
 | .bool false => some b
 | _ => none
def vConv (k : IntKind) (x : PV) : Option PV :=
 match x with
 | .int _ n => some (.int k (k.wrap n))
 | _ => none
def bytesOf? : List PV → Option (List UInt8)
 | [] => some []
 | .int .u8 n :: l => match bytesOf? l with
  | some r => some (UInt8.ofNat n.toNat :: r)
  | none => none
 | _ :: _ => none
def vToStr (x : PV) (σ : St) : Option PV :=
 match x with
 | .str _ => none
 | x => match vElems x σ with
  | some xs => match bytesOf? xs with
   | some l => some (.str l)
   | none => none
  | none => none
def vToBytes (tg : Nat) (x : PV) (σ : St) : Option (PV × St) :=
 match x with
 | .str l => if l.length ≤ 140737488355328 then
   (match l with
   | [] => some (.list .part [],σ)
   | _ => some (.sref σ.length tg 1 0 l.length,σ ++ [.arr tg 1 (l.map fun b => .int .u8 b.toNat)]))
  else none
 | _ => none
inductive CvK where
 | mark
 | int (k : IntKind)
 | toStr
 | same
 | toBytes (e : Nat)
def vExtract (x : PV) (i : Nat) : Option PV :=
 match x with
 | .tuple vs => vs[i]?
 | _ => none
def vFieldV (ag : Bool) (sz : Nat) (x : PV) (off : Nat) : Option PV :=
 match x with
 | .agg cs => vPart ag sz (.agg cs) off
 | _ => none
def vCap (x : PV) : Option PV :=
 match x with
 | .list .nil [] => some (.int .i64 0)
 | .list .full xs => some (.int .i64 xs.length)
 | _ => none
def vNil (x : PV) : Option PV :=
 match x with
 | .ptr b g i o => some (.ptr b g i o)
 | .eptr e o => some (.eptr e o)
 | .func f k c => some (.func f k c)
 | _ => none
def vFind (k : EK1) (key : PV) : List (PV × PV) → Nat → Option (Option (Nat × PV))
 | [],_ => some none
 | e :: es,i => match vEqS k key e.1 with
  | some true => some (some (i,e.2))
  | some false => vFind k key es (i + 1)
  | none => none
def isKey (k : EK1) (key : PV) : Bool :=
 match k,key with
 | .bool,.bool _ => true
 | .int,.int .. => true
 | .str,.str _ => true
 | _,_ => false
def vLookup (k : EK1) (z : PV) (ok : Bool) (m key : PV) (σ : St) : Option PV :=
 match m with
 | .nilmap => if isKey k key then some (if ok then .tuple [z,.bool false] else z) else none
 | .mref b => match σ[b]? with
  | some (.map _ es) => if isKey k key then (match vFind k key es 0 with
   | some (some (_,v)) => some (if ok then .tuple [v,.bool true] else v)
   | some none => some (if ok then .tuple [z,.bool false] else z)
   | none => none) else none
  | _ => none
 | _ => none
def vMapSet (k : EK1) (m key v : PV) (σ : St) : Option St :=
 match m with
 | .mref b => match σ[b]? with
  | some (.map n es) => if isKey k key then (match vFind k key es 0 with
   | some (some (i,_)) => some (σ.set b (.map (n + 1) (es.set i (key,v))))
   | some none => some (σ.set b (.map (n + 1) (es ++ [(key,v)])))
   | none => none) else none
  | _ => none
 | _ => none
def vMapDel (k : EK1) (m key : PV) (σ : St) : Option St :=
 match m with
 | .mref b => match σ[b]? with
  | some (.map n es) => if isKey k key then (match vFind k key es 0 with
   | some (some (i,_)) => some (σ.set b (.map (n + 1) (es.eraseIdx i)))
   | some none => some (σ.set b (.map (n + 1) es))
   | none => none) else none
  | _ => none
 | _ => none
def vRange (m : PV) (σ : St) : Option (PV × St) :=
 match m with
 | .nilmap => some (.ptr σ.length 0 0 0,σ ++ [.iter none none []])
 | .mref b => match σ[b]? with
  | some (.map n es) => some (.ptr σ.length 0 0 0,σ ++ [.iter (some (b,n)) none (List.range es.length)])
  | _ => none
 | _ => none
def vNexts (p : PV) (σ : St) : Option (List (PV × St)) :=
 match p with
 | .ptr b 0 0 0 => match σ[b]? with
  | some (.iter none _ _) => some [(.tuple [.bool false],σ)]
  | some (.iter (some (mb,n)) last left) => (match σ[mb]? with
   | some (.map n' es) => if n' = n then
     match left with
     | [] => some [(.tuple [.bool false],σ)]
     | _ => some (left.map fun i => (.tuple [.bool true,.any,.any],σ.set b (.iter (some (mb,n)) (some i) (left.erase i))))
    else none
   | _ => none)
  | _ => none
 | _ => none
def vEntry (p : PV) (σ : St) : Option PV :=
 match p with
 | .ptr b 0 0 0 => match σ[b]? with
  | some (.iter (some (mb,n)) (some i) _) => (match σ[mb]? with
   | some (.map n' es) => if n' = n then (match es[i]? with
    | some e => some (.tuple [e.1,e.2])
    | none => none) else none
   | _ => none)
  | _ => none
 | _ => none
def vMin (x y : PV) : Option PV :=
 match x,y with
 | .int k a,.int k' b => if k = k' then some (.int k (if b < a then b else a)) else none
 | _,_ => none
def vMax (x y : PV) : Option PV :=
 match x,y with
 | .int k a,.int k' b => if k = k' then some (.int k (if a < b then b else a)) else none
 | _,_ => none
def vAssert (t : TypeId) (z : PV) (ok : Bool) (x : PV) : Option PV :=
 match x with
 | .iface t' v => if t' = t then some (if ok then .tuple [v,.bool true] else v) else if ok then some (.tuple [z,.bool false]) else none
 | .nilIface => if ok then some (.tuple [z,.bool false]) else none
 | _ => none
end Go.Abs
namespace Go.Abs
structure Alg (ρ : Type) where
 fail : ρ
 call : FuncId → List PV → St → (Res → St → ρ) → ρ
 same : St → St → ρ → ρ
 all : List (PV × St) → (PV → St → ρ) → ρ
 loop : St → (((Nat → PV) → St → ρ) → (Nat → PV) → St → ρ) → (Nat → PV) → St → ρ
 cut : St → (((Nat → PV) → St → ρ) → ρ) → ((Nat → PV) → St → ρ) → ρ
 weak : St → PV → St → (PV → St → ρ) → ρ
 both : ρ → ρ → ρ
structure Ann where
 locs : List Nat
 keep : List (Nat × List Nat × List Nat)
 cuts : List Nat
 draws : List (Nat × List (Nat × Bool × Bool)) := []
 alts : List (Nat × List (Nat × Bool × Bool)) := []
 ext : Option (List PV → St → Option (PV × St)) := none
 base : St := []
 deriving Inhabited
def EV.pv : EV → PV
 | .v x => x
 | .loc _ _ => .any
def lookE : List (Nat × EV) → Nat → EV
 | [],_ => .v .any
 | (k,x) :: l,n => if n = k then x else lookE l n
def lookP : List (Nat × PV) → Nat → PV
 | [],_ => .any
 | (k,x) :: l,n => if n = k then x else lookP l n
def findKeep : List (Nat × List Nat × List Nat) → Nat → Option (List Nat × List Nat)
 | [],_ => none
 | (k,x) :: l,n => if n = k then some x else findKeep l n
def Ann.at_ (an : Ann) (k : Option Nat) : Option (List Nat × List Nat) :=
 match k with
 | none => none
 | some k => findKeep an.keep k
def packL (live lc : List Nat) (fr : Fr) : List (Nat × PV) := live.map (fun t => (t,(fr.env t).pv)) ++ lc.map (fun s => (s,fr.loc s))
def packF (live lc : List Nat) (fr : Fr) : Nat → PV := lookP (packL live lc fr)
def unpack (live lc : List Nat) (x : Nat → PV) : Fr :=
 {env := fun t => if lc.contains t then .loc t 0 else if live.contains t then .v (x t) else .v .any
  loc := fun s => if lc.contains s then x s else .any
  dfr := [] }
def firstReg : Code → Option Nat
 | .region id _ _ => some id
 | .seq a b => match firstReg a with
  | some k => some k
  | none => firstReg b
 | .block _ b => firstReg b
 | .loop b => firstReg b
 | .scope b => firstReg b
 | _ => none
def Ann.isCut (an : Ann) (k : Option Nat) : Bool :=
 match k with
 | none => false
 | some k => an.cuts.contains k
def Fr.put (fr : Fr) (d : Option Nat) (x : EV) : Fr :=
 match d with
 | none => fr
 | some d => { fr with env := fun n => if n = d then x else fr.env n }
def Fr.newLoc (fr : Fr) (d : Nat) (z : PV) : Fr :=
 { fr with
  env := fun n => if n = d then .loc d 0 else match fr.env n with
   | .loc s o => if s = d then .v .any else .loc s o
   | .v x => .v x
  loc := fun s => if s = d then z else fr.loc s }
def Fr.setLoc (fr : Fr) (d : Nat) (z : PV) : Fr := { fr with loc := fun s => if s = d then z else fr.loc s }
def evE (fr : Fr) : Operand → EV
 | .tmp t => fr.env t
 | .const v => .v (ofVal v)
 | .func f => .v (.func f 0 [])
 | .global g => .v (globPV g)
def evP (fr : Fr) (x : Operand) : PV := (evE fr x).pv
def szOf (P : Program) (t : TypeId) : Option Nat := (P.info? t).map (·.size)
def bytesOf (P : Program) (t : TypeId) : Option Nat := (P.info? t).map (·.bytes)
def zeroOf (P : Program) (t : TypeId) : Option PV :=
 match P.info? t with
 | some i => match i.zero with
  | some z => some (ofVal z)
  | none => none
 | none => none
def aggOf (P : Program) (t : TypeId) : Option Bool :=
 match P.underlying t with
 | some (.struct _) => some true
 | some (.array ..) => some true
 | some _ => some false
 | none => none
def fieldOf (P : Program) (t : TypeId) (f : Nat) : Option Field :=
 match P.underlying t with
 | some (.struct fs) => fs[f]?
 | _ => none
def fieldAt? (P : Program) (t : TypeId) (f : Nat) : Option Nat :=
 match fieldOf P t f with
 | some fd => match szOf P fd.type with
  | some 0 => none
  | some _ => some fd.offset
  | none => none
 | none => none
def elemOf? (P : Program) (t : TypeId) : Option TypeId :=
 match P.underlying t with
 | some (.slice e) => some e
 | _ => none
def arrOf? (P : Program) (t : TypeId) : Option (Nat × TypeId) :=
 match P.underlying t with
 | some (.array n e) => some (n,e)
 | _ => none
def intOf? (P : Program) (t : TypeId) : Option IntKind :=
 match P.underlying t with
 | some (.int k) => some k
 | _ => none
def eqScalar (P : Program) (t : TypeId) : Option EK1 :=
 match P.underlying t with
 | some .bool => some .bool
 | some (.int _) => some .int
 | some .string => some .str
 | _ => none
def eqFields (P : Program) (E : TypeId → Option (List EK1)) : List Field → Nat → Option (List EK1)
 | [],_ => some []
 | f :: fs,k =>
  if f.name ≠ "_" ∧ f.offset = k then
   match E f.type with
   | some l1 => match eqFields P E fs (k + l1.length) with
    | some l => some (l1 ++ l)
    | none => none
   | none => none
  else none
def eqFlat (P : Program) : Nat → TypeId → Option (List EK1)
 | 0,t => (match eqScalar P t with
  | some e => some [e]
  | none => none)
 | n + 1,t => match P.underlying t with
  | some (.struct fs) => if P.stoodInHeld t = false then (match eqFields P (eqFlat P n) fs.toList 0 with
   | some l => if szOf P t = some l.length then some l else none
   | none => none) else none
  | _ => (match eqScalar P t with
   | some e => some [e]
   | none => none)
def eqTy (P : Program) (t : TypeId) (c : Bool) : Option EK :=
 match P.underlying t with
 | some (.struct fs) => if P.stoodInHeld t = false ∧ P.eqGuardType P.depth t = false then (match eqFields P (eqFlat P 2) fs.toList 0 with | some l => some (.st l) | none => none) else none
 | some (.interface _) => if c then some .ifc else none
 | some .bool => some .bool
 | some (.pointer _) => some .ptr
 | some (.slice _) => some .sl
 | some (.map ..) => some .map
 | some (.func ..) => some .fn
 | _ => none
def Operand.isConst : Operand → Bool
 | .const _ => true
 | _ => false
def mkTy (P : Program) (t : TypeId) : Bool :=
 match P.underlying t with
 | some (.int _) => true
 | _ => false
def appTy (P : Program) (t : TypeId) : Bool :=
 match P.underlying t with
 | some (.slice _) => true
 | some .string => true
 | _ => false
def apTag (P : Program) (e : TypeId) : Nat :=
 match P.underlying e with
 | some (.int .u8) => if e < 1048576 then 4 * e + 3 else 0
 | _ => 0
def appT (tg sz by_ : Nat) (s y : PV) (σ : St) : Option (PV × St) :=
 match tg with
 | 0 => vAppend sz by_ s y σ
 | tg + 1 => vAppendT (tg + 1) sz by_ s y σ
theorem appT_eq (tg sz by_ : Nat) (s y : PV) (σ : St) : appT tg sz by_ s y σ = vAppendT tg sz by_ s y σ := by
 cases tg with
 | zero => exact (vAppendT_zero _ _ _ _ _).symm
 | succ n => rfl
def isU8 (P : Program) (e : TypeId) : Bool :=
 match P.underlying e with
 | some (.int .u8) => true
 | _ => false
def cvOf (P : Program) (us : TypeDesc) (d : TypeId) : Option CvK :=
 match P.underlying d with
 | some (.int k) => some (.int k)
 | some .string => (match us with
  | .string => some .same
  | .slice e => if isU8 P e then some .toStr else none
  | _ => none)
 | some (.slice e) => (match us with
  | .string => if isU8 P e then some (.toBytes e) else none
  | .slice _ => if isU8 P e then some .mark else none
  | _ => none)
 | _ => none
def mapOf? (P : Program) (t : TypeId) : Option (TypeId × TypeId) :=
 match P.underlying t with
 | some (.map k e) => some (k,e)
 | _ => none
def noIface (P : Program) (t : TypeId) : Bool :=
 match P.underlying t with
 | some (.interface _) => false
 | some _ => true
 | none => false
def isStr (P : Program) (t : TypeId) : Bool :=
 match P.underlying t with
 | some .string => true
 | _ => false
def lenTy (P : Program) (t : TypeId) : Option LenK :=
 match P.underlying t with
 | some .string => some .str
 | some (.slice _) => some .sl
 | some (.map ..) => some .map
 | _ => none
def isZ (x : PV) : Option Unit := match x with
 | .int _ n => if n = 0 then some () else none
 | _ => none
def zeroAt (x : Option PV) : Option Unit := match x with
 | some x => isZ x
 | none => none
section
variable {ρ : Type}
def placesOf (P : Program) (t : TypeId) : Option (List (Nat × Nat)) :=
 match P.underlying t with
 | some (.struct fields) => fields.toList.mapM (fun f => (P.info? f.type).map fun i => (f.offset,i.size))
 | some (.array n e) => (P.info? e).map fun i => (List.range n).map fun k => (k * i.size,i.size)
 | _ => none
def partsOf (pl : List (Nat × Nat)) (fr : Fr) : List (Nat × Operand) → Option (List (Nat × Nat × PV))
 | [] => some []
 | (i,x) :: l =>
   match pl[i]? with
   | none => none
   | some (off,sz) => match partsOf pl fr l with
       | none => none
       | some r => some ((off,sz,evP fr x) :: r)
def vResults (vs : List PV) : PV :=
 match vs with
 | [v] => v
 | vs => .tuple vs
def rdOf (strict : Bool) (σ : St) : St := match strict with
 | true => []
 | false => σ
def vExt (name : String) (args : List PV) : Option PV := none
def argsF (k : Nat) (args caps : List PV) : List PV :=
 match k with
 | 0 => args ++ caps
 | k + 1 => caps.take (k + 1) ++ args ++ caps.drop (k + 1)
def callG (A : Alg ρ) (P : Program) (clean : Bool) (f : PV) (args : List PV) (σ : St) (K : PV → St → ρ) (X : PV → St → ρ) : ρ :=
 match f with
 | .func f k caps =>
  (match P.funcs[f]? with
  | some fn =>
   (match fn.body with
   | some _ => callK A clean f (argsF k args caps) σ K X
   | none => bindO A.fail (vExt fn.name (argsF k args caps)) fun v => K v σ)
  | none => A.fail)
 | _ => A.fail
where
 callK (A : Alg ρ) (clean : Bool) (f : FuncId) (args : List PV) (σ : St) (K : PV → St → ρ) (X : PV → St → ρ) : ρ :=
  A.call f args σ fun r σ' =>
   match clean with
   | true => A.same σ σ' (match r with
    | .ret v => K v σ'
    | .pan v => A.fail)
   | false => (match r with
    | .ret v => K v σ'
    | .pan v => X v σ')
def quietX (A : Alg ρ) (strict : Bool) (X : PV → St → ρ) : PV → St → ρ :=
 match strict with
 | true => fun _ _ => A.fail
 | false => X
def opV (A : Alg ρ) (P : Program) (clean strict : Bool) (o : Oper) (fr : Fr) (σ : St) (K : EV → St → ρ) (X : PV → St → ρ) : ρ :=
 match o.op with
 | .move x => K (evE fr x) σ
 | .assign x => K (evE fr x) σ
 | .pick c a b => bindO A.fail (vPick (evP fr c) (evP fr a) (evP fr b)) fun x => K (.v x) σ
 | .build t parts =>
  bindO A.fail (placesOf P t) fun pl => bindO A.fail (partsOf pl fr parts.toList) fun ps =>
   bindO A.fail (zeroOf P t) fun z =>
    match z with
    | .agg zs => bindO A.fail (vBuild zs ps) fun cs => K (.v (.agg cs)) σ
    | _ => A.fail
 | .buildSlice t n parts =>
  bindO A.fail (elemOf? P t) fun e => bindO A.fail (szOf P e) fun sz => bindO A.fail (zeroOf P e) fun z =>
   if n * sz ≤ 16777216 ∧ 0 < sz then
    bindO A.fail (vBox sz z) fun z => bindO A.fail (vBuildSl sz (List.replicate n z) (parts.toList.map fun (i,x) => (i,evP fr x))) fun xs =>
     K (.v (.list .full xs)) σ
   else A.fail
 | .load t a =>
  bindO A.fail (aggOf P t) fun ag => bindO A.fail (szOf P t) fun sz =>
   match evE fr a with
   | .loc s off => (match clean with
    | true => A.fail
    | false => bindO A.fail (vPart ag sz (fr.loc s) off) fun x => K (.v x) σ)
   | .v p => bindO A.fail (vLoad ag sz p (rdOf strict σ)) fun x => K (.v x) σ
 | .nilCheck x =>
  match evE fr x with
  | .loc s off => K (.loc s off) σ
  | .v p => bindO A.fail (vNil p) fun x => K (.v x) σ
 | .binOp op t x y _ =>
  bindO A.fail (vBin (eqTy P t (Operand.isConst x || Operand.isConst y)) op (evP fr x) (evP fr y)) fun x => K (.v x) σ
 | .unOp op _ x => bindO A.fail (vUn op (evP fr x)) fun x => K (.v x) σ
 | .convert s d x => if cvPure s d = true then bindO A.fail (P.underlying s) fun us => bindO A.fail (cvOf P us d) fun c =>
   match c with
   | .int k => bindO A.fail (vConv k (evP fr x)) fun x => K (.v x) σ
   | .same => (match evP fr x with
    | .str l => K (.v (.str l)) σ
    | _ => A.fail)
   | _ => A.fail
  else if cvRead s d = true then bindO A.fail (P.underlying s) fun us => bindO A.fail (cvOf P us d) fun c =>
   match c with
   | .toStr => bindO A.fail (vToStr (evP fr x) (rdOf strict σ)) fun x => K (.v x) σ
   | _ => A.fail
  else bindO A.fail (P.underlying s) fun us => bindO A.fail (cvOf P us d) fun c =>
   match c with
   | .mark => if s = d then (match evP fr x with
    | .list .full xs => if xs.isEmpty = false ∧ headSized 1 xs = true then K (.v (.list .full xs)) σ else A.fail
    | _ => A.fail) else A.fail
   | .toBytes e => bindO A.fail (vToBytes (apTag P e) (evP fr x) σ) fun r => K (.v r.1) r.2
   | _ => A.fail
 | .makeFunc fn first caps => (match fn with
  | .func f => if first.size = 0 then K (.v (.func f 0 (caps.toList.map (evP fr)))) σ else K (.v (.func f first.size (first.toList.map (evP fr) ++ caps.toList.map (evP fr)))) σ
  | _ => A.fail)
 | .makeSlice t l c =>
  bindO A.fail (elemOf? P t) fun e => bindO A.fail (szOf P e) fun sz => bindO A.fail (bytesOf P e) fun by_ => bindO A.fail (zeroOf P e) fun z =>
   if 0 < sz ∧ 0 < by_ then bindO A.fail (vMakeSl sz by_ z (evP fr l) (evP fr c) σ) fun r => K (.v r.1) r.2 else A.fail
 | .slice t x lo hi mx => if mx.isSome then
  (if lo.isNone then bindO A.fail (zeroAt (hi.map (evP fr))) fun _ => bindO A.fail (zeroAt (mx.map (evP fr))) fun _ => bindO A.fail (elemOf? P t) fun e => bindO A.fail (szOf P e) fun _ => bindO A.fail (vClip (evP fr x)) fun x => K (.v x) σ else A.fail) else
  if isStr P t then bindO A.fail (vSubStr (evP fr x) (lo.map (evP fr)) (hi.map (evP fr))) fun x => K (.v x) σ
  else match elemOf? P t with
   | some e => bindO A.fail (szOf P e) fun sz => bindO A.fail (vSubSl sz (evP fr x) (lo.map (evP fr)) (hi.map (evP fr))) fun x => K (.v x) σ
   | none => bindO A.fail (arrOf? P t) fun ne => bindO A.fail (szOf P ne.2) fun sz => bindO A.fail (aggOf P ne.2) fun ag =>
    if lo.isNone ∧ hi.isNone ∧ 0 < sz ∧ (ag = true ∨ sz = 1) then bindO A.fail (vSubArr ag sz ne.1 (evP fr x)) fun x => K (.v x) σ else A.fail
 | .fieldAddr t x f =>
  bindO A.fail (fieldAt? P t f) fun k =>
   match evE fr x with
   | .loc s off => K (.loc s (off + k)) σ
   | .v p => bindO A.fail (vField k p) fun x => K (.v x) σ
 | .indexAddr t x i =>
  match elemOf? P t with
  | some e => bindO A.fail (szOf P e) fun sz => bindO A.fail (vIndex sz (evP fr x) (evP fr i)) fun x => K (.v x) σ
  | none => bindO A.fail (arrOf? P t) fun ne => bindO A.fail (szOf P ne.2) fun sz => bindO A.fail (vArrOff sz ne.1 (evP fr i)) fun k => bindO A.fail (vField k (evP fr x)) fun x => K (.v x) σ
 | .index t x i => if isStr P t then bindO A.fail (vStrAt (evP fr x) (evP fr i)) fun x => K (.v x) σ else A.fail
 | .extract x i => bindO A.fail (vExtract (evP fr x) i) fun x => K (.v x) σ
 | .makeInterface t x => (match P.underlying t with
  | some (.interface _) => A.fail
  | none => A.fail
  | some _ => K (.v (.iface t (evP fr x))) σ)
 | .panic x => (match evP fr x with
  | .iface t v => X (.iface t v) σ
  | _ => A.fail)
 | .call c =>
  match c.callee with
  | .builtin .len => (match c.args.toList,c.argTypes.toList with
   | [x],[t] => bindO A.fail (lenTy P t) fun k => bindO A.fail (vLen k (evP fr x) (rdOf strict σ)) fun x => K (.v x) σ
   | _,_ => A.fail)
  | .builtin .append => (match c.args.toList,c.argTypes.toList with
   | [s,y],[t,t2] =>
    bindO A.fail (elemOf? P t) fun e => bindO A.fail (szOf P e) fun sz => bindO A.fail (bytesOf P e) fun by_ => bindO A.fail (zeroOf P e) fun z => bindO A.fail (vBox sz z) fun z =>
     if 0 < sz ∧ 0 < by_ ∧ by_ ≤ 1048576 ∧ appTy P t2 = true then bindO A.fail (appT (apTag P e) sz by_ (evP fr s) (evP fr y) σ) fun r => K (.v r.1) r.2
     else if 0 < sz ∧ 0 < by_ ∧ by_ ≤ 1048576 ∧ mkTy P t2 = true then bindO A.fail (vAppendMk sz by_ z (evP fr s) (evP fr y) σ) fun r => K (.v r.1) r.2 else A.fail
   | _,_ => A.fail)
  | .builtin .min => (match c.args.toList with
   | [x,y] => bindO A.fail (vMin (evP fr x) (evP fr y)) fun x => K (.v x) σ
   | _ => A.fail)
  | .builtin .max => (match c.args.toList with
   | [x,y] => bindO A.fail (vMax (evP fr x) (evP fr y)) fun x => K (.v x) σ
   | _ => A.fail)
  | .builtin .cap => (match c.args.toList,c.argTypes.toList with
   | [x],[t] => bindO A.fail (elemOf? P t) fun _ => bindO A.fail (vCap (evP fr x)) fun x => K (.v x) σ
   | _,_ => A.fail)
  | .builtin .delete => (match c.args.toList,c.argTypes.toList with
   | [m,k],[t,_] => bindO A.fail (mapOf? P t) fun ke => bindO A.fail (eqScalar P ke.1) fun ek => bindO A.fail (vMapDel ek (evP fr m) (evP fr k) σ) fun σ => K (.v (.tuple [])) σ
   | _,_ => A.fail)
  | .value f => callG A P clean (evP fr f) (c.args.toList.map (evP fr)) σ (fun v σ => K (.v v) σ) (quietX A strict X)
  | _ => A.fail
 | .makeMap _ r => if r.isSome then A.fail else K (.v (.mref σ.length)) (σ ++ [.map 0 []])
 | .lookup t x i ok =>
  bindO A.fail (mapOf? P t) fun ke => bindO A.fail (eqScalar P ke.1) fun ek => bindO A.fail (zeroOf P ke.2) fun z =>
   bindO A.fail (vLookup ek z ok (evP fr x) (evP fr i) (rdOf strict σ)) fun x => K (.v x) σ
 | .mapUpdate t m k x =>
  bindO A.fail (mapOf? P t) fun ke => bindO A.fail (eqScalar P ke.1) fun ek => bindO A.fail (vMapSet ek (evP fr m) (evP fr k) (evP fr x) σ) fun σ => K (.v .any) σ
 | .insert t m k x =>
  bindO A.fail (mapOf? P t) fun ke => bindO A.fail (eqScalar P ke.1) fun ek => bindO A.fail (vMapSet ek (evP fr m) (evP fr k) (evP fr x) σ) fun σ => K (.v .any) σ
 | .field t x f =>
  bindO A.fail (fieldOf P t f) fun fd => bindO A.fail (szOf P fd.type) fun sz => bindO A.fail (aggOf P fd.type) fun ag => bindO A.fail (vFieldV ag sz (evP fr x) fd.offset) fun x => K (.v x) σ
 | .range t x => bindO A.fail (mapOf? P t) fun _ => bindO A.fail (vRange (evP fr x) σ) fun r => K (.v r.1) r.2
 | .next x s => if s then A.fail else bindO A.fail (vNexts (evP fr x) σ) fun l => A.all l fun v σ => K (.v v) σ
 | .entry x => bindO A.fail (vEntry (evP fr x) (rdOf strict σ)) fun x => K (.v x) σ
 | .typeAssert x _ t ok => if noIface P t then bindO A.fail (zeroOf P t) fun z => bindO A.fail (vAssert t z ok (evP fr x)) fun x => K (.v x) σ else A.fail
 | _ => A.fail
def tagOf (P : Program) (t : TypeId) : Nat :=
 match fieldOf P t 0 with
 | some f => (match P.underlying f.type with
  | some (.pointer t') => if t' = t ∧ t < 1048576 then 4 * t + 1 else 0
  | _ => 0)
 | none => 0
def heldL (locs : List Nat) : List Nat := (locs.filter fun k => Nat.ble 1000000 k).map fun k => k - 1000000
def apartV (e : EV) (b s : Option Nat) : Bool :=
 match e with
 | .v (.ptr b' _ _ _) => (match b with
  | some b0 => !Nat.beq b0 b'
  | none => true)
 | .loc s' _ => (match s with
  | some s0 => !Nat.beq s0 s'
  | none => true)
 | _ => true
def heldOk (locs : List Nat) (fr : Fr) (b s : Option Nat) : Bool := (heldL locs).all fun t => apartV (fr.env t) b s
def heldG (A : Alg ρ) (b : Bool) (k : ρ) : ρ :=
 match b with
 | true => k
 | false => A.fail
def blkP (x : PV) : Option Nat :=
 match x with
 | .ptr b _ _ _ => some b
 | .sref b _ _ _ _ => some b
 | _ => none
def appOf (o : Op) : Option Operand :=
 match o with
 | .call c => (match c.callee with
  | .builtin .append => c.args.toList.head?
  | _ => none)
 | _ => none
def opC (A : Alg ρ) (P : Program) (locs : List Nat) (clean strict : Bool) (o : Oper) (fr : Fr) (σ : St) (K : Fr → St → ρ) (X : PV → Fr → St → ρ) : ρ :=
 match o.op with
 | .alloc t =>
  bindO A.fail (szOf P t) fun sz => bindO A.fail (zeroOf P t) fun z => bindO A.fail (vBox sz z) fun z =>
   match o.dst with
   | some d => if locs.contains d then K (fr.newLoc d z) σ else if 0 < sz then K (fr.put o.dst (.v (.ptr σ.length (tagOf P t) 0 0))) (σ ++ [.arr (tagOf P t) sz [z]]) else A.fail
   | none => A.fail
 | .box t x =>
  bindO A.fail (vBoxAny (evP fr x)) fun z =>
   match o.dst with
   | some d => if locs.contains d then K (fr.newLoc d z.2) σ else if 0 < z.1 then K (fr.put o.dst (.v (.ptr σ.length 0 0 0))) (σ ++ [.arr 0 z.1 [z.2]]) else A.fail
   | none => A.fail
 | .buildSlice t n parts =>
  match o.dst with
  | some d => if locs.contains d then
    bindO A.fail (elemOf? P t) fun e => bindO A.fail (szOf P e) fun sz => bindO A.fail (zeroOf P e) fun z =>
     if n * sz ≤ 16777216 ∧ 0 < sz ∧ 0 < n then
      bindO A.fail (vBox sz z) fun z => bindO A.fail (vBuildSl sz (List.replicate n z) (parts.toList.map fun (i,x) => (i,evP fr x))) fun xs =>
       K (fr.put o.dst (.v (.sref σ.length 0 sz 0 n))) (σ ++ [.arr 0 sz xs])
     else A.fail
   else opV A P clean strict o fr σ (fun e σ => K (fr.put o.dst e) σ) (fun v σ => X v fr σ)
  | none => opV A P clean strict o fr σ (fun e σ => K (fr.put o.dst e) σ) (fun v σ => X v fr σ)
 | .store t a x =>
  bindO A.fail (szOf P t) fun sz =>
   match evE fr a with
   | .loc s off => (match clean with
    | true => A.fail
    | false => heldG A (heldOk locs fr none (some s)) (bindO A.fail (vPut sz (fr.loc s) off (evP fr x)) fun z => K ((fr.setLoc s z).put o.dst (.v .any)) σ))
   | .v p => (match strict with
    | true => A.fail
    | false => heldG A (heldOk locs fr (blkP p) none) (bindO A.fail (vStore sz p (evP fr x) σ) fun σ => K (fr.put o.dst (.v .any)) σ))
 | .defer c =>
  match c.callee,c.args.toList with
  | .value f,[] => (match evP fr f with
   | .func g 0 caps => K { fr.put o.dst (.v .any) with dfr := (g,caps) :: fr.dfr } σ
   | _ => A.fail)
  | _,_ => A.fail
 | _ => match appOf o.op with
  | some s => heldG A (heldOk locs fr (blkP (evP fr s)) none) (opV A P clean strict o fr σ (fun e σ => K (fr.put o.dst e) σ) (fun v σ => X v fr σ))
  | none => opV A P clean strict o fr σ (fun e σ => K (fr.put o.dst e) σ) (fun v σ => X v fr σ)
where
 vBoxAny (x : PV) : Option (Nat × PV) := match x.cells? with
  | some cs => some (cs.length,x)
  | none => none
def gOk (g : PV) (want : Bool) : Option Bool :=
 match g with
 | .bool b => some (b == want)
 | .tuple [] => some false
 | _ => none
def guardG (fail : ρ) (g : PV) (want : Bool) (op : ((Nat → EV) → St → ρ) → ρ) (σ : St) (K : (Nat → EV) → St → ρ) : ρ :=
 match gOk g want with
 | some true => op K
 | some false => K (fun _ => .v (.tuple [])) σ
 | none => fail
structure Task where
 i : Nat
 o : Oper
 clean : Bool
 strict : Bool
def takeRun (g : Nat × Bool) : List Task → List Task × List Task
 | [] => ([],[])
 | t :: ts => if t.o.guard = some g then (t :: (takeRun g ts).1,(takeRun g ts).2) else ([],t :: ts)
def guardable (d : Nat) (o : Oper) : Bool :=
 (match o.op with
 | .store .. => false
 | .alloc _ => false
 | .box .. => false
 | .defer _ => false
 | _ => true) && o.dst != some d
def dstsOf : List Task → List Nat
 | [] => []
 | t :: ts => match t.o.dst with
  | some d => d :: dstsOf ts
  | none => dstsOf ts
def Fr.puts (fr : Fr) (ds : List Nat) (y : Nat → EV) : Fr := { fr with env := fun n => if ds.contains n then y n else fr.env n }
def seqC (A : Alg ρ) (P : Program) : List Task → Fr → St → (Fr → St → ρ) → (PV → St → ρ) → ρ
 | [],fr,σ,K,_ => K fr σ
 | t :: ts,fr,σ,K,X => opV A P t.clean t.strict t.o fr σ (fun e σ => seqC A P ts (fr.put t.o.dst e) σ K X) X
def opsC (A : Alg ρ) (P : Program) (locs : List Nat) (all : List Oper) : Nat → List Task → Fr → St → (Fr → St → ρ) → (PV → Fr → St → ρ) → ρ
 | 0,ts,fr,σ,K,_ => match ts with
  | [] => K fr σ
  | _ => A.fail
 | n + 1,ts,fr,σ,K,X => match ts with
  | [] => K fr σ
  | t :: ts => match t.o.guard with
   | none => opC A P locs t.clean t.strict t.o fr σ (fun fr σ => opsC A P locs all n ts fr σ K X) X
   | some g => match all[g.1]? with
    | some oj => (match oj.dst with
     | some d =>
      if (t :: (takeRun g ts).1).all (fun t => guardable d t.o) then
       guardG A.fail (fr.env d).pv g.2
        (fun J => seqC A P (t :: (takeRun g ts).1) fr σ (fun fr σ => J (lookE ((dstsOf (t :: (takeRun g ts).1)).map fun d => (d,fr.env d))) σ) (fun v σ => X v fr σ)) σ
        (fun y σ => opsC A P locs all n (takeRun g ts).2 (fr.puts (dstsOf (t :: (takeRun g ts).1)) y) σ K X)
      else A.fail
     | none => A.fail)
    | none => A.fail
def textTasks : Nat → List Oper → List Task
 | _,[] => []
 | i,o :: os => { i,o,clean := false,strict := false } :: textTasks (i + 1) os
def tasksOf (ops : List Oper) : List (Nat × Bool × Bool) → Option (List Task)
 | [] => some []
 | (i,c,s) :: l =>
   match ops[i]? with
   | none => none
   | some o => match tasksOf ops l with
     | none => none
     | some ts => some ({ i,o,clean := c,strict := s } :: ts)
def locsThere (A : Alg ρ) (fr : Fr) (p : ρ) : List Nat → ρ
 | [] => p
 | s :: l => match fr.env s with
  | .loc s' 0 => if s' = s then locsThere A fr p l else A.fail
  | _ => A.fail
def findDraw : List (Nat × List (Nat × Bool × Bool)) → Nat → Option (List (Nat × Bool × Bool))
 | [],_ => none
 | (k,x) :: l,n => if n = k then some x else findDraw l n
def drawC (A : Alg ρ) (an : Ann) (id : Nat) (ops : List Oper) (run : List Task → ρ) : ρ :=
 match findDraw an.draws id with
 | some l => (match tasksOf ops l with
  | some ts => (match findDraw an.alts id with
   | none => run ts
   | some l' => (match tasksOf ops l' with
    | some ts' => A.both (run ts) (run ts')
    | none => A.fail))
  | none => A.fail)
 | none => A.fail
def forceN {α : Type} (n : Nat) (K : Nat → α) : α :=
 match n with
 | 0 => K 0
 | m + 1 => K (m + 1)
theorem forceN_eq {α : Type} (n : Nat) (K : Nat → α) : forceN n K = K n := by cases n <;> rfl
def forceI {α : Type} (n : Int) (K : Int → α) : α :=
 match n with
 | .ofNat m => forceN m fun m => K (.ofNat m)
 | .negSucc m => forceN m fun m => K (.negSucc m)
theorem forceI_eq {α : Type} (n : Int) (K : Int → α) : forceI n K = K n := by cases n <;> simp only [forceI,forceN_eq]
def forceV {α : Type} (v : PV) (K : PV → α) : α :=
 match v with
 | .int k n => forceI n fun n => K (.int k n)
 | .sref b g z off len => forceN b fun b => forceN g fun g => forceN off fun off => forceN len fun len => K (.sref b g z off len)
 | .ptr b g i off => forceN b fun b => forceN g fun g => K (.ptr b g i off)
 | v => K v
theorem forceV_eq {α : Type} (v : PV) (K : PV → α) : forceV v K = K v := by
 cases v <;> simp only [forceV,forceN_eq,forceI_eq]
def forceP {α : Type} : List (Nat × PV) → (List (Nat × PV) → α) → α
 | [],K => K []
 | (t,v) :: l,K => forceV v fun v => forceP l fun l => K ((t,v) :: l)
theorem forceP_eq {α : Type} : ∀ (l : List (Nat × PV)) (K : List (Nat × PV) → α),forceP l K = K l
 | [],_ => rfl
 | (t,v) :: l,K => by rw [forceP,forceV_eq,forceP_eq l]
def toPack (A : Alg ρ) (kp : List Nat × List Nat) (fr : Fr) (K : (Nat → PV) → ρ) : ρ :=
 match fr.dfr with
 | [] => locsThere A fr (forceP (packL kp.1 kp.2 fr) fun l => K (lookP l)) kp.2
 | _ => A.fail
def dstL : List Oper → List Nat
 | [] => []
 | o :: os => match o.dst with
  | some d => d :: dstL os
  | none => dstL os
def Fr.mask (fr : Fr) (D : List Nat) (base : Fr) : Fr := { fr with env := fun t => if D.contains t then .v .any else .v (base.env t).pv }
def codeC (A : Alg ρ) (P : Program) (an : Ann) : Code → Fr → St → (Out → Fr → St → ρ) → ρ
 | .skip,fr,σ,Q => Q .normal fr σ
 | .region id ops draw,fr,σ,Q =>
  match draw with
  | true => drawC A an id ops.toList fun ts => opsC A P an.locs ops.toList ts.length ts fr σ (Q .normal) (fun v fr' => Q (.pan v) (fr'.mask (dstL ops.toList) fr))
  | false => opsC A P an.locs ops.toList ops.toList.length (textTasks 0 ops.toList) fr σ (Q .normal) (fun v fr' => Q (.pan v) (fr'.mask (dstL ops.toList) fr))
 | .seq a b,fr,σ,Q =>
  if an.isCut (firstReg b) then
   match an.at_ (firstReg b) with
   | some kp => A.cut an.base (fun J => codeC A P an a fr σ (fun o fr σ => match o with
    | .normal => toPack A kp fr fun x => J x σ
    | o => Q o fr σ)) (fun x σ => codeC A P an b (unpack kp.1 kp.2 x) σ Q)
   | none => A.fail
  else codeC A P an a fr σ (fun o fr σ => match o with
    | .normal => codeC A P an b fr σ Q
    | o => Q o fr σ)
 | .cond c a b,fr,σ,Q =>
  match evP fr c with
  | .bool true => codeC A P an a fr σ Q
  | .bool false => codeC A P an b fr σ Q
  | _ => A.fail
 | .block id a,fr,σ,Q => codeC A P an a fr σ (fun o fr σ => match o with
   | .exit id' => if id' = id then Q .normal fr σ else Q (.exit id') fr σ
   | o => Q o fr σ)
 | .loop a,fr,σ,Q =>
  match an.at_ (firstReg a) with
  | some kp => toPack A kp fr fun x =>
    A.loop an.base (fun Φ x σ => codeC A P an a (unpack kp.1 kp.2 x) σ (fun o fr σ => match o with
     | .normal => toPack A kp fr fun x => Φ x σ
     | o => Q o fr σ)) x σ
  | none => A.fail
 | .exit id,fr,σ,Q => Q (.exit id) fr σ
 | .label _,fr,σ,Q => Q .normal fr σ
 | .ret,fr,σ,Q => Q .ret fr σ
 | _,_,_,_ => A.fail
def depsOf (o : Oper) : List Nat := (o.after.toList.filter (Region.binds .any)).map (·.on)
def depsAt (ops : Array Oper) (j : Nat) : List Nat := match ops[j]? with
 | some o => depsOf o
 | none => []
def lookN : List (Nat × List Nat) → Nat → List Nat
 | [],_ => []
 | (k,x) :: l,n => if n = k then x else lookN l n
def uniN (l : List Nat) : List Nat → List Nat
 | [] => l
 | x :: xs => if l.contains x then uniN l xs else uniN (x :: l) xs
def preT (ops : Array Oper) : List Nat → List (Nat × List Nat) → List (Nat × List Nat)
 | [],acc => acc
 | j :: js,acc => preT ops js ((j,(depsAt ops j).foldl (fun l d => uniN l (lookN acc d)) (depsAt ops j)) :: acc)
def isP (o : Oper) : Bool :=
 match o.op with
 | .move _ => true
 | .assign _ => true
 | .pick .. => true
 | .build .. => true
 | .buildSlice .. => true
 | .load .. => true
 | .nilCheck _ => true
 | .binOp .. => true
 | .unOp .. => true
 | .convert s d _ => cvPure s d || cvRead s d
 | .makeFunc .. => true
 | .slice .. => true
 | .fieldAddr .. => true
 | .field .. => true
 | .indexAddr .. => true
 | .index .. => true
 | .extract .. => true
 | .makeInterface .. => true
 | .typeAssert .. => true
 | .lookup .. => true
 | .entry _ => true
 | .call c => (match c.callee with
  | .builtin .len => true
  | .builtin .min => true
  | .builtin .max => true
  | _ => false)
 | _ => false
def blkLit (locs : List Nat) (o : Oper) : Bool :=
 (match o.op with
 | .buildSlice .. => true
 | _ => false) && (match o.dst with
  | some d => locs.contains d
  | none => false)
def readsP (o : Oper) : Bool :=
 match o.op with
 | .load .. => true
 | .convert s d _ => !cvPure s d
 | .lookup .. => true
 | .entry _ => true
 | .call _ => true
 | _ => false
def isLoad (o : Oper) : Bool :=
 match o.op with
 | .load .. => true
 | _ => false
def newsLoc (locs : List Nat) (o : Oper) : Bool :=
 (match o.op with
 | .alloc _ => true
 | .box .. => true
 | _ => false) && (match o.dst with
  | some d => locs.contains d
  | none => false) && o.guard.isNone
def effOk (x y : Task) : Bool :=
 isP y.o || match y.o.op with
 | .call c => (match c.callee with
  | .value _ => y.clean || x.strict || !readsP x.o
  | .builtin .append => x.strict || !readsP x.o
  | _ => false)
 | .makeSlice .. => true
 | .makeMap .. => true
 | .mapUpdate .. => x.strict || !readsP x.o
 | .store .. => !readsP x.o || (!isLoad x.o && x.strict || isLoad x.o && (x.clean && y.strict || x.strict && y.clean))
 | _ => false
def newsHeap (locs : List Nat) (o : Oper) : Bool :=
 (match o.op with
 | .alloc _ => true
 | .box .. => true
 | _ => false) && (match o.dst with
  | some d => !locs.contains d
  | none => false) && o.guard.isNone
def quietCall (y : Task) : Bool :=
 (match y.o.op with
 | .call c => (match c.callee with
  | .value _ => true
  | _ => false)
 | _ => false) && y.strict && y.o.guard.isNone
def offHeld (locs : List Nat) (o : Oper) : Bool :=
 match o.dst with
 | some d => !(heldL locs).contains d
 | none => true
def holdOk (locs : List Nat) (x y : Task) : Bool :=
 (match x.o.op with
 | .load _ (.tmp t) => (heldL locs).contains t
 | _ => false) && x.o.guard.isNone && !x.strict && !x.clean && y.o.guard.isNone && (match y.o.op with
  | .store .. => true
  | _ => (appOf y.o.op).isSome)
def comm (locs : List Nat) (ops : Array Oper) (x y : Task) : Bool := x.o.apart ops y.o && (!blkLit locs x.o && !blkLit locs y.o) && (isP x.o && offHeld locs x.o && (effOk x y || newsHeap locs y.o || holdOk locs x y) || newsLoc locs x.o && (isP y.o || quietCall y))
def butIs (T : List (Nat × List Nat)) (but : Option (Nat × Nat)) (u v : Nat) : Bool :=
 match but with
 | some (a,b) => v == b && (u == a || (lookN T a).contains u)
 | none => false
def pairsOk (locs : List Nat) (ops : Array Oper) (T : List (Nat × List Nat)) (but : Option (Nat × Nat)) : List Task → Bool
 | [] => true
 | x :: ts => !(depsAt ops x.i).contains x.i && (depsAt ops x.i).all (fun d => decide (d < ops.size)) && ts.all (fun y => !(depsAt ops x.i).contains y.i && y.i != x.i && ((lookN T y.i).contains x.i || comm locs ops x y || butIs T but x.i y.i)) && pairsOk locs ops T but ts
def drawOk (locs : List Nat) (ops : Array Oper) (but : Option (Nat × Nat)) (l : List (Nat × Bool × Bool)) : Bool :=
 match tasksOf ops.toList l with
 | some ts => ts.length == ops.size && (List.range ops.size).all (fun k => ts.any fun t => t.i == k) && pairsOk locs ops (preT ops (l.map (·.1)) []) but ts
 | none => true
def predOf (i : Nat) : Nat → List (Nat × Bool × Bool) → Nat
 | p,[] => p
 | p,x :: l => if x.1 = i then p else predOf i x.1 l
def pairOf (l l' : List (Nat × Bool × Bool)) : Option (Nat × Nat) :=
 match l,l' with
 | x :: l,y :: l' => if x.1 = y.1 then pairOf l l' else some (x.1,predOf x.1 y.1 l')
 | _,_ => none
def swapP : Option (Nat × Nat) → Option (Nat × Nat)
 | some (i,j) => some (j,i)
 | none => none
def isApp (o : Oper) : Bool :=
 (match o.op with
 | .call c => (match c.callee with
  | .builtin .append => true
  | _ => false)
 | _ => false) && o.guard.isNone
def altOk (locs : List Nat) (ops : Array Oper) (ij : Option (Nat × Nat)) (l l' : List (Nat × Bool × Bool)) : Bool :=
 match ij,tasksOf ops.toList l with
 | some (i,j),some ts => decide (i < ops.size) && decide (j < ops.size) && ts.all fun x => x.i == i || x.i == j || (lookN (preT ops (l.map (·.1)) []) x.i).contains i || (lookN (preT ops (l.map (·.1)) []) x.i).contains j || ((isP x.o || newsLoc locs x.o || isApp x.o) && !blkLit locs x.o && l'.contains (x.i,x.clean,x.strict))
 | _,_ => false
def codeOk (an : Ann) (n : Nat) : Code → Bool
 | .region id ops draw => (ops.toList.all fun o => match o.dst with
  | some d => decide (d < n)
  | none => true) && (match draw with
   | false => true
   | true => match findDraw an.draws id with
    | some l => (match findDraw an.alts id with
     | none => drawOk an.locs ops none l
     | some l' => drawOk an.locs ops (pairOf l l') l && drawOk an.locs ops (swapP (pairOf l l')) l' && altOk an.locs ops (pairOf l l') l l')
    | none => true)
 | .seq a b => codeOk an n a && codeOk an n b
 | .cond _ a b => codeOk an n a && codeOk an n b
 | .block _ a => codeOk an n a
 | .loop a => codeOk an n a
 | .scope a => codeOk an n a
 | _ => true
def progOk (P : Program) (ann : FuncId → Ann) : Bool :=
 P.follows .mixedOrders && (List.range P.funcs.size).all fun f => match P.funcs[f]? with
  | some fn => (match fn.body with
   | some c => codeOk (ann f) fn.ntmps c
   | none => true)
  | none => true
def resOne (P : Program) (fr : Fr) (σ : St) : ResultVar → Option PV
 | .tmp t => some (fr.env t).pv
 | .cell a t =>
  match aggOf P t,szOf P t with
  | some ag,some sz =>
   match fr.env a with
   | .loc s off => vPart ag sz (fr.loc s) off
   | .v p => vLoad ag sz p σ
  | _,_ => none
def resCons (x : Option PV) (xs : Option (List PV)) : Option (List PV) :=
 match x with
 | none => none
 | some v => match xs with
  | none => none
  | some vs => some (v :: vs)
def resAll (P : Program) (fr : Fr) (σ : St) : List ResultVar → Option (List PV)
 | [] => some []
 | r :: rs => resCons (resOne P fr σ r) (resAll P fr σ rs)
def envOf : Nat → List PV → Nat → EV
 | _,[],_ => .v .any
 | i,x :: xs,n => if n = i then .v x else envOf (i + 1) xs n
def fr0 (args : List PV) : Fr := { env := envOf 0 args,loc := fun _ => .any,dfr := [] }
def recV (m : Option PV) : PV := match m with
 | none => .nilIface
 | some v => v
def deferC (A : Alg ρ) (P : Program) (ann : FuncId → Ann) (g : FuncId) (caps : List PV) (m : Option PV) (σ : St) (K : Option PV → St → ρ) : ρ :=
 match P.funcs[g]? with
 | some fn =>
  match fn.body with
  | some (.seq (.region _ ops false) rest) =>
   (match ops.toList with
   | o :: os =>
    if o.guard = none ∧ isRecover o.op = true ∧ fn.results.size = 0 then
     opsC A P (ann g).locs ops.toList ops.toList.length (textTasks 1 os) ((fr0 caps).put o.dst (.v (recV m))) σ
      (fun fr σ' => codeC A P { ann g with base := σ } rest fr σ' fun o fr σ => match fr.dfr with
       | [] => (match o with
        | .normal => K none σ
        | .ret => K none σ
        | .pan v => (match m with
         | none => K (some v) σ
         | some _ => A.fail)
        | .exit _ => A.fail)
       | _ => A.fail)
      (fun _ _ _ => A.fail)
    else A.fail
   | [] => A.fail)
  | _ => A.fail
 | none => A.fail
where
 isRecover : Op → Bool
  | .call c => (match c.callee with
   | .builtin .recover => true
   | _ => false)
  | _ => false
def leaveC (A : Alg ρ) (P : Program) (ann : FuncId → Ann) (σ₀ : St) (R : Res → St → ρ) (fn : Func) (fr : Fr) : List (FuncId × List PV) → Option PV → St → ρ
 | [],none,σ' => bindO A.fail (resAll P fr σ' fn.results.toList) fun vs => A.weak σ₀ (vResults vs) σ' fun v σ => R (.ret v) σ
 | [],some v,σ' => R (.pan v) σ'
 | d :: ds,m,σ' => deferC A P ann d.1 d.2 m σ' fun m σ => leaveC A P ann σ₀ R fn fr ds m σ
def bodyC (A : Alg ρ) (P : Program) (ann : FuncId → Ann) (f : FuncId) (args : List PV) (σ : St) (R : Res → St → ρ) : ρ :=
 match (ann f).ext with
 | some g => bindO A.fail (g args σ) fun r => R (.ret r.1) r.2
 | none =>
  match P.funcs[f]? with
  | some fn =>
   match fn.body with
   | some c => codeC A P { ann f with base := σ } c (fr0 args) σ (fun o fr σ' =>
    match o with
    | .normal => leaveC A P ann σ R fn fr fr.dfr none σ'
    | .ret => leaveC A P ann σ R fn fr fr.dfr none σ'
    | .pan v => leaveC A P ann σ R fn fr fr.dfr (some v) σ'
    | .exit _ => A.fail)
   | none => A.fail
  | none => A.fail
end
inductive Under (n : Nat) : PV → Prop where
 | any : Under n .any
 | bool (b) : Under n (.bool b)
 | int (k i) : Under n (.int k i)
 | str (l) : Under n (.str l)
 | nilptr : Under n .nilptr
 | ptr (b g i o) : b < n → Under n (.ptr b g i o)
 | eptr (e o) : Under n e → Under n (.eptr e o)
 | list (k xs) : (∀ (i : Nat) (x : PV),xs[i]? = some x → Under n x) → Under n (.list k xs)
 | sref (b g z o l) : b < n → Under n (.sref b g z o l)
 | nilmap : Under n .nilmap
 | mref (b) : b < n → Under n (.mref b)
 | func (f k c) : (∀ (i : Nat) (x : PV),c[i]? = some x → Under n x) → Under n (.func f k c)
 | nilfunc : Under n .nilfunc
 | iface (t v) : Under n v → Under n (.iface t v)
 | nilIface : Under n .nilIface
 | agg (cs) : (∀ (i : Nat) (x : PV),cs[i]? = some x → Under n x) → Under n (.agg cs)
 | tuple (cs) : (∀ (i : Nat) (x : PV),cs[i]? = some x → Under n x) → Under n (.tuple cs)
def UnderB (n : Nat) : Blk → Prop
 | .arr _ _ xs => ∀ (i : Nat) (x : PV),xs[i]? = some x → Under n x
 | .map _ es => ∀ (i : Nat) (e : PV × PV),es[i]? = some e → Under n e.1 ∧ Under n e.2
 | .iter m _ _ => ∀ k,m = some k → k.1 < n
 | .dead => True
inductive Frz (σ : St) (n : Nat) : PV → PV → Prop where
 | base (v) : Under n v → Frz σ n v v
 | sref (b g z o l g' z' xs ys) : σ[b]? = some (.arr g' z' xs) → g = g' → n ≤ b → ys.length = l → o + l ≤ xs.length →
   (∀ (i : Nat) (x y : PV),i < l → xs[o + i]? = some x → ys[i]? = some y → Frz σ n x y) → Frz σ n (.sref b g z o l) (.list .part ys)
 | list (k xs ys) : ys.length = xs.length → (∀ (i : Nat) (x y : PV),xs[i]? = some x → ys[i]? = some y → Frz σ n x y) → Frz σ n (.list k xs) (.list k ys)
 | agg (xs ys) : ys.length = xs.length → (∀ (i : Nat) (x y : PV),xs[i]? = some x → ys[i]? = some y → Frz σ n x y) → Frz σ n (.agg xs) (.agg ys)
 | tuple (xs ys) : ys.length = xs.length → (∀ (i : Nat) (x y : PV),xs[i]? = some x → ys[i]? = some y → Frz σ n x y) → Frz σ n (.tuple xs) (.tuple ys)
inductive Free (D : Nat → Prop) : PV → Prop where
 | any : Free D .any
 | bool (b) : Free D (.bool b)
 | int (k i) : Free D (.int k i)
 | str (l) : Free D (.str l)
 | nilptr : Free D .nilptr
 | ptr (b g i o) : ¬ D b → Free D (.ptr b g i o)
 | eptr (e o) : Free D e → Free D (.eptr e o)
 | list (k xs) : (∀ (i : Nat) (x : PV),xs[i]? = some x → Free D x) → Free D (.list k xs)
 | sref (b g z o l) : ¬ D b → Free D (.sref b g z o l)
 | nilmap : Free D .nilmap
 | mref (b) : ¬ D b → Free D (.mref b)
 | func (f k c) : (∀ (i : Nat) (x : PV),c[i]? = some x → Free D x) → Free D (.func f k c)
 | nilfunc : Free D .nilfunc
 | iface (t v) : Free D v → Free D (.iface t v)
 | nilIface : Free D .nilIface
 | agg (cs) : (∀ (i : Nat) (x : PV),cs[i]? = some x → Free D x) → Free D (.agg cs)
 | tuple (cs) : (∀ (i : Nat) (x : PV),cs[i]? = some x → Free D x) → Free D (.tuple cs)
inductive FrzD (σ : St) (D : Nat → Prop) : PV → PV → Prop where
 | gone (v) : FrzD σ D v .any
 | base (v) : Free D v → FrzD σ D v v
 | sref (b g z o l g' z' xs ys) : σ[b]? = some (.arr g' z' xs) → g = g' → D b → ys.length = l → o + l ≤ xs.length →
   (∀ (i : Nat) (x y : PV),i < l → xs[o + i]? = some x → ys[i]? = some y → FrzD σ D x y) → FrzD σ D (.sref b g z o l) (.list .part ys)
 | ptr (b g i off z xs x y) : σ[b]? = some (.arr g z xs) → D b → xs[i]? = some x → FrzD σ D x y → FrzD σ D (.ptr b g i off) (.eptr y off)
 | list (k xs ys) : ys.length = xs.length → (∀ (i : Nat) (x y : PV),xs[i]? = some x → ys[i]? = some y → FrzD σ D x y) → FrzD σ D (.list k xs) (.list k ys)
 | func (f k xs ys) : ys.length = xs.length → (∀ (i : Nat) (x y : PV),xs[i]? = some x → ys[i]? = some y → FrzD σ D x y) → FrzD σ D (.func f k xs) (.func f k ys)
 | iface (t x y) : FrzD σ D x y → FrzD σ D (.iface t x) (.iface t y)
 | agg (xs ys) : ys.length = xs.length → (∀ (i : Nat) (x y : PV),xs[i]? = some x → ys[i]? = some y → FrzD σ D x y) → FrzD σ D (.agg xs) (.agg ys)
 | tuple (xs ys) : ys.length = xs.length → (∀ (i : Nat) (x y : PV),xs[i]? = some x → ys[i]? = some y → FrzD σ D x y) → FrzD σ D (.tuple xs) (.tuple ys)
def FrzB (σ : St) (D : Nat → Prop) (k k' : Blk) : Prop :=
 k' = .dead ∨ match k with
 | .arr g z xs => ∃ ys,k' = .arr g z ys ∧ ys.length = xs.length ∧ ∀ (i : Nat) (x y : PV),xs[i]? = some x → ys[i]? = some y → FrzD σ D x y
 | .map v es => ∃ es',k' = .map v es' ∧ es'.length = es.length ∧ ∀ (i : Nat) (e e' : PV × PV),es[i]? = some e → es'[i]? = some e' → FrzD σ D e.1 e'.1 ∧ FrzD σ D e.2 e'.2
 | .iter m l r => k' = .iter m l r ∧ ∀ k,m = some k → ¬ D k.1
 | .dead => False
structure Kill (σ₀ : St) (D : Nat → Prop) (σ σ' : St) : Prop where
 low : ∀ b,D b → σ₀.length ≤ b
 les : σ'.length ≤ σ.length
 out : ∀ b,σ'.length ≤ b → b < σ.length → D b
 blk : ∀ (b : Nat) (k' : Blk),σ'[b]? = some k' → k' = .dead ∨ ¬ D b ∧ ∃ k,σ[b]? = some k ∧ (FrzB σ D k k' ∨ k' = k ∧ σ₀[b]? = some k)
def WeakX (σ₀ : St) (x : Nat → PV) (σ : St) (x' : Nat → PV) (σ' : St) : Prop :=
 ∃ D,Kill σ₀ D σ σ' ∧ ∀ t,FrzD σ D (x t) (x' t)
inductive Weak (σ₀ : St) (v : PV) (σ' : St) : PV → St → Prop where
 | keep : Weak σ₀ v σ' v σ'
 | clean (g : List Blk) (v' : PV) : σ' = σ₀ ++ g → Frz σ' σ₀.length v v' → Weak σ₀ v σ' v' σ₀
 | drop (σ₁ g : List Blk) (v' : PV) : σ' = σ₁ ++ g → σ₀.length ≤ σ₁.length → (∀ (i : Nat) (b : Blk),σ₁[i]? = some b → UnderB σ₁.length b) → Frz σ' σ₁.length v v' → Weak σ₀ v σ' v' σ₁
 | kill (D : Nat → Prop) (v' : PV) (σ'' : St) : Kill σ₀ D σ' σ'' → FrzD σ' D v v' → Weak σ₀ v σ' v' σ''
def Lfp (σ₀ : St) (F : ((Nat → PV) → St → Prop) → (Nat → PV) → St → Prop) (x : Nat → PV) (σ : St) : Prop :=
 ∀ Φ : (Nat → PV) → St → Prop,(∀ x σ,F Φ x σ → Φ x σ) → (∀ x σ x' σ',WeakX σ₀ x σ x' σ' → Φ x' σ' → Φ x σ) → Φ x σ
def CutW (σ₀ : St) (A : ((Nat → PV) → St → Prop) → Prop) (B : (Nat → PV) → St → Prop) : Prop :=
 ∃ J : (Nat → PV) → St → Prop,(∀ x σ,J x σ → B x σ ∨ ∃ x' σ',WeakX σ₀ x σ x' σ' ∧ B x' σ') ∧ A J
def Pre (σ σ' : St) : Prop := ∃ g,σ' = σ ++ g
@[simp] theorem Pre.refl (σ : St) : Pre σ σ := ⟨[],by simp⟩
abbrev CallP := FuncId → List PV → St → (Res → St → Prop) → Prop
def algP (call : CallP) : Alg Prop where
 fail := False
 call := call
 same σ σ' p := Pre σ σ' ∧ p
 all l K := ∀ p ∈ l,K p.1 p.2
 loop := Lfp
 cut := CutW
 weak σ₀ v σ' K := ∃ v' σ'',Weak σ₀ v σ' v' σ'' ∧ K v' σ''
 both p q := p ∧ q
def callW (P : Program) (ann : FuncId → Ann) : CallP := fun f args σ R =>
 ∀ Φ : CallP,(∀ f args σ R,bodyC (algP Φ) P ann f args σ R → Φ f args σ R) → Φ f args σ R
def condW (c : PV) (a b : Prop) : Prop :=
 match c with
 | .bool true => a
 | .bool false => b
 | _ => False
def bindS (o : Option (PV × St)) (K : PV → St → Prop) : Prop := bindO False o fun r => K r.1 r.2
def newMapW (σ : St) (K : PV → St → Prop) : Prop := K (.mref σ.length) (σ ++ [.map 0 []])
def newT (g sz : Nat) (z : PV) (σ : St) (K : PV → St → Prop) : Prop := K (.ptr σ.length g 0 0) (σ ++ [.arr g sz [z]])
def heldW (b : Bool) (k : Prop) : Prop :=
 match b with
 | true => k
 | false => False
def rowW (sz n : Nat) (xs : List PV) (σ : St) (K : PV → St → Prop) : Prop := K (.sref σ.length 0 sz 0 n) (σ ++ [.arr 0 sz xs])
def newW (sz : Nat) (z : PV) (σ : St) (K : PV → St → Prop) : Prop := K (.ptr σ.length 0 0 0) (σ ++ [.arr 0 sz [z]])
def weakW (σ₀ : St) (v : PV) (σ' : St) (K : PV → St → Prop) : Prop := ∃ v' σ'',Weak σ₀ v σ' v' σ'' ∧ K v' σ''
def callB (W : CallP) (f : FuncId) (args : List PV) (σ : St) (K : PV → St → Prop) (X : PV → St → Prop) : Prop :=
 W f args σ fun r σ' => match r with
  | .ret v => K v σ'
  | .pan v => X v σ'
def callC (W : CallP) (f : FuncId) (args : List PV) (σ : St) (K : PV → St → Prop) : Prop :=
 W f args σ fun r σ' => Pre σ σ' ∧ match r with
  | .ret v => K v σ'
  | .pan v => False
def packW (l : List (Nat × PV)) (K : (Nat → PV) → Prop) : Prop := forceP l fun l => K (lookP l)
theorem packW_eq (l : List (Nat × PV)) (K : (Nat → PV) → Prop) : packW l K = K (lookP l) := by rw [packW,forceP_eq]
def sameW (x : PV) (K : List UInt8 → Prop) : Prop :=
 match x with
 | .str l => K l
 | _ => False
end Go.Abs
namespace Go.Abs
structure AlgRel {ρ ρ' : Type} (r : ρ → ρ' → Prop) (A : Alg ρ) (B : Alg ρ') : Prop where
 fail : ∀ q,r A.fail q
 call : ∀ {f args σ R R'},(∀ x σ,r (R x σ) (R' x σ)) → r (A.call f args σ R) (B.call f args σ R')
 same : ∀ {σ σ' p q},r p q → r (A.same σ σ' p) (B.same σ σ' q)
 loop : ∀ {n F F' x σ},(∀ Φ Φ',(∀ x σ,r (Φ x σ) (Φ' x σ)) → ∀ x σ,r (F Φ x σ) (F' Φ' x σ)) → r (A.loop n F x σ) (B.loop n F' x σ)
 all : ∀ {l K K'},(∀ v σ,r (K v σ) (K' v σ)) → r (A.all l K) (B.all l K')
 cut : ∀ {n a a' b b'},(∀ J J',(∀ x σ,r (J x σ) (J' x σ)) → r (a J) (a' J')) → (∀ x σ,r (b x σ) (b' x σ)) → r (A.cut n a b) (B.cut n a' b')
 weak : ∀ {σ₀ v σ' K K'},(∀ v σ,r (K v σ) (K' v σ)) → r (A.weak σ₀ v σ' K) (B.weak σ₀ v σ' K')
 both : ∀ {p p' q q'},r p p' → r q q' → r (A.both p q) (B.both p' q')
section
variable {ρ ρ' : Type} {r : ρ → ρ' → Prop} {A : Alg ρ} {B : Alg ρ'} {P : Program}
theorem bindO_rel (h : AlgRel r A B) {α : Type} {o : Option α} {K : α → ρ} {K' : α → ρ'} (hK : ∀ a,r (K a) (K' a)) : r (bindO A.fail o K) (bindO B.fail o K') := by
 cases o with
 | none => exact h.fail _
 | some a => exact hK a
theorem ite_rel (h : AlgRel r A B) {c : Prop} [Decidable c] {a : ρ} {b : ρ} {a' b' : ρ'} (ha : c → r a a') (hb : ¬ c → r b b') : r (if c then a else b) (if c then a' else b') := by
 split
 ·exact ha ‹_›
 ·exact hb ‹_›
theorem quietX_rel (h : AlgRel r A B) {s : Bool} {X : PV → St → ρ} {X' : PV → St → ρ'} (hX : ∀ v σ,r (X v σ) (X' v σ)) : ∀ v σ,r (quietX A s X v σ) (quietX B s X' v σ) := by
 cases s with
 | true => exact fun v σ => h.fail _
 | false => exact hX
theorem callG_rel (h : AlgRel r A B) {clean : Bool} {f : PV} {args : List PV} {σ : St} {K X : PV → St → ρ} {K' X' : PV → St → ρ'} (hK : ∀ e σ,r (K e σ) (K' e σ)) (hX : ∀ v σ,r (X v σ) (X' v σ)) :
  r (callG A P clean f args σ K X) (callG B P clean f args σ K' X') := by
 unfold callG
 cases f with
 | func f k caps =>
  simp only
  cases P.funcs[f]? with
  | none => exact h.fail _
  | some fn =>
   simp only
   cases fn.body with
   | none => exact bindO_rel h fun a => hK _ _
   | some c =>
    simp only
    unfold callG.callK
    refine h.call fun x σ' => ?_
    cases clean with
    | true =>
     simp only
     refine h.same ?_
     cases x with
     | ret v => exact hK _ _
     | pan v => exact h.fail _
    | false =>
     cases x with
     | ret v => exact hK _ _
     | pan v => exact hX _ _
 | _ => exact h.fail _
theorem opV_rel (h : AlgRel r A B) {c s : Bool} {o : Oper} {fr : Fr} {σ : St} {K : EV → St → ρ} {X : PV → St → ρ} {K' : EV → St → ρ'} {X' : PV → St → ρ'} (hK : ∀ e σ,r (K e σ) (K' e σ)) (hX : ∀ v σ,r (X v σ) (X' v σ)) :
  r (opV A P c s o fr σ K X) (opV B P c s o fr σ K' X') := by
 obtain ⟨dst,op,type,pos,after,guard⟩ := o
 have bb {α : Type} {o : Option α} {K : α → ρ} {K' : α → ρ'} (hK : ∀ a,r (K a) (K' a)) : r (bindO A.fail o K) (bindO B.fail o K') := bindO_rel h hK
 cases op with
 | call q =>
  obtain ⟨callee,args,argTypes⟩ := q
  cases callee with
  | value f => exact callG_rel h (fun e σ => hK _ _) (quietX_rel h hX)
  | invoke _ _ => exact h.fail _
  | builtin b =>
   cases b with
   | len =>
    simp only [opV]
    split
    ·exact bb fun k => bb fun x => hK _ _
    ·exact h.fail _
   | append =>
    simp only [opV]
    split
    ·exact bb fun e => bb fun sz => bb fun by_ => bb fun z => bb fun _ => ite_rel h (fun _ => bb fun r => hK _ _) (fun _ => ite_rel h (fun _ => bb fun r => hK _ _) (fun _ => h.fail _))
    ·exact h.fail _
   | min =>
    simp only [opV]
    split
    ·exact bb fun k => hK _ _
    ·exact h.fail _
   | max =>
    simp only [opV]
    split
    ·exact bb fun k => hK _ _
    ·exact h.fail _
   | cap =>
    simp only [opV]
    split
    ·exact bb fun _ => bb fun _ => hK _ _
    ·exact h.fail _
   | delete =>
    simp only [opV]
    split
    ·exact bb fun _ => bb fun _ => bb fun _ => hK _ _
    ·exact h.fail _
   | _ => exact h.fail _
 | _ =>
  simp only [opV]
  repeat first
   | exact hK _ _
   | exact hX _ _
   | exact h.fail _
   | exact h.all fun v σ => hK _ _
   | refine bb fun _ => ?_
   | refine ite_rel h (fun _ => ?_) (fun _ => ?_)
   | split
theorem heldG_rel (h : AlgRel r A B) {b : Bool} {k : ρ} {k' : ρ'} (hk : r k k') : r (heldG A b k) (heldG B b k') := by
 cases b with
 | true => exact hk
 | false => exact h.fail _
theorem opC_rel (h : AlgRel r A B) {locs : List Nat} {c s : Bool} {o : Oper} {fr : Fr} {σ : St} {K : Fr → St → ρ} {X : PV → Fr → St → ρ} {K' : Fr → St → ρ'} {X' : PV → Fr → St → ρ'} (hK : ∀ e σ,r (K e σ) (K' e σ)) (hX : ∀ v fr σ,r (X v fr σ) (X' v fr σ)) :
  r (opC A P locs c s o fr σ K X) (opC B P locs c s o fr σ K' X') := by
 obtain ⟨dst,op,type,pos,after,guard⟩ := o
 have bb {α : Type} {o : Option α} {K : α → ρ} {K' : α → ρ'} (hK : ∀ a,r (K a) (K' a)) : r (bindO A.fail o K) (bindO B.fail o K') := bindO_rel h hK
 have other : r (opV A P c s ⟨dst,op,type,pos,after,guard⟩ fr σ (fun e σ => K (fr.put dst e) σ) (fun v σ => X v fr σ)) (opV B P c s ⟨dst,op,type,pos,after,guard⟩ fr σ (fun e σ => K' (fr.put dst e) σ) (fun v σ => X' v fr σ)) :=
  opV_rel h (fun e σ => hK _ _) (fun v σ => hX _ _ _)
 cases op with
 | alloc t =>
  simp only [opC]
  repeat first
   | exact hK _ _
   | exact h.fail _
   | refine bb fun _ => ?_
   | refine ite_rel h (fun _ => ?_) (fun _ => ?_)
   | split
 | box t x =>
  simp only [opC]
  repeat first
   | exact hK _ _
   | exact h.fail _
   | refine bb fun _ => ?_
   | refine ite_rel h (fun _ => ?_) (fun _ => ?_)
   | split
 | buildSlice t n parts =>
  simp only [opC]
  split
  ·split
   ·repeat first
     | exact hK _ _
     | exact h.fail _
     | refine bb fun _ => ?_
     | refine ite_rel h (fun _ => ?_) (fun _ => ?_)
   ·exact other
  ·exact other
 | store t a x =>
  simp only [opC]
  repeat first
   | exact hK _ _
   | exact h.fail _
   | refine heldG_rel h ?_
   | refine bb fun _ => ?_
   | refine ite_rel h (fun _ => ?_) (fun _ => ?_)
   | split
 | defer q =>
  simp only [opC]
  repeat first
   | exact hK _ _
   | exact h.fail _
   | split
 | call q =>
  simp only [opC]
  split
  ·exact heldG_rel h other
  ·exact other
 | _ => exact other
theorem seqC_rel (h : AlgRel r A B) : ∀ (ts : List Task) {fr : Fr} {σ : St} {K : Fr → St → ρ} {X : PV → St → ρ} {K' : Fr → St → ρ'} {X' : PV → St → ρ'},(∀ e σ,r (K e σ) (K' e σ)) → (∀ v σ,r (X v σ) (X' v σ)) →
  r (seqC A P ts fr σ K X) (seqC B P ts fr σ K' X')
 | [],_,_,_,_,_,_,hK,hX => hK _ _
 | t :: ts,_,_,_,_,_,_,hK,hX => opV_rel h (fun e σ => seqC_rel h ts hK hX) hX
theorem opsC_rel (h : AlgRel r A B) {locs : List Nat} {all : List Oper} : ∀ (n : Nat) (ts : List Task) {fr : Fr} {σ : St} {K : Fr → St → ρ} {X : PV → Fr → St → ρ} {K' : Fr → St → ρ'} {X' : PV → Fr → St → ρ'},(∀ e σ,r (K e σ) (K' e σ)) → (∀ v fr σ,r (X v fr σ) (X' v fr σ)) →
  r (opsC A P locs all n ts fr σ K X) (opsC B P locs all n ts fr σ K' X')
 | 0,[],_,_,_,_,_,_,hK,hX => hK _ _
 | 0,_ :: _,_,_,_,_,_,_,hK,hX => h.fail _
 | n + 1,[],_,_,_,_,_,_,hK,hX => hK _ _
 | n + 1,t :: ts,fr,_,_,_,_,_,hK,hX => by
  simp only [opsC]
  cases t.o.guard with
  | none => exact opC_rel h (fun e σ => opsC_rel h n ts hK hX) hX
  | some g =>
   simp only
   cases all[g.1]? with
   | none => exact h.fail _
   | some oj =>
    simp only
    cases oj.dst with
    | none => exact h.fail _
    | some d =>
     simp only
     refine ite_rel h (fun _ => ?_) (fun _ => h.fail _)
     unfold guardG
     cases gOk (fr.env d).pv g.2 with
     | none => exact h.fail _
     | some b =>
      cases b with
      | true => exact seqC_rel h _ (fun e σ => opsC_rel h n _ hK hX) (fun v σ => hX _ _ _)
      | false => exact opsC_rel h n _ hK hX
theorem toPack_rel (h : AlgRel r A B) {kp : List Nat × List Nat} {fr : Fr} {K : (Nat → PV) → ρ} {K' : (Nat → PV) → ρ'} (hK : ∀ x,r (K x) (K' x)) : r (toPack A kp fr K) (toPack B kp fr K') := by
 unfold toPack
 cases fr.dfr with
 | cons => exact h.fail _
 | nil =>
  simp only [forceP_eq]
  generalize lookP (packL kp.1 kp.2 fr) = x
  have : ∀ l : List Nat,r (locsThere A fr (K x) l) (locsThere B fr (K' x) l) := by
   intro l
   induction l with
   | nil => exact hK _
   | cons s l ih =>
    simp only [locsThere]
    split
    ·exact ite_rel h (fun _ => ih) (fun _ => h.fail _)
    ·exact h.fail _
  exact this _
theorem drawC_rel (h : AlgRel r A B) {an : Ann} {id : Nat} {ops : List Oper} {run : List Task → ρ} {run' : List Task → ρ'} (hr : ∀ ts,r (run ts) (run' ts)) : r (drawC A an id ops run) (drawC B an id ops run') := by
 unfold drawC
 cases findDraw an.draws id with
 | none => exact h.fail _
 | some l =>
  simp only
  cases tasksOf ops l with
  | none => exact h.fail _
  | some ts =>
   simp only
   cases findDraw an.alts id with
   | none => exact hr _
   | some l' =>
    simp only
    cases tasksOf ops l' with
    | none => exact h.fail _
    | some ts' => exact h.both (hr _) (hr _)
theorem codeC_rel (h : AlgRel r A B) {an : Ann} : ∀ (c : Code) {fr : Fr} {σ : St} {Q : Out → Fr → St → ρ} {Q' : Out → Fr → St → ρ'},(∀ o fr σ,r (Q o fr σ) (Q' o fr σ)) →
  r (codeC A P an c fr σ Q) (codeC B P an c fr σ Q')
 | .skip,_,_,_,_,hQ => hQ _ _ _
 | .label _,_,_,_,_,hQ => hQ _ _ _
 | .exit _,_,_,_,_,hQ => hQ _ _ _
 | .ret,_,_,_,_,hQ => hQ _ _ _
 | .region id ops draw,_,_,_,_,hQ => by
  simp only [codeC]
  cases draw with
  | false => exact opsC_rel h _ _ (fun _ _ => hQ _ _ _) (fun _ _ _ => hQ _ _ _)
  | true => exact drawC_rel h fun ts => opsC_rel h _ _ (fun _ _ => hQ _ _ _) (fun _ _ _ => hQ _ _ _)
 | .seq x y,_,_,_,_,hQ => by
  simp only [codeC]
  refine ite_rel h (fun _ => ?_) (fun _ => ?_)
  ·cases an.at_ (firstReg y) with
   | none => exact h.fail _
   | some kp =>
    simp only
    refine h.cut (fun J J' hJ => codeC_rel h x fun o fr σ => ?_) (fun x σ => codeC_rel h y hQ)
    cases o with
    | normal => exact toPack_rel h fun x => hJ _ _
    | _ => exact hQ _ _ _
  ·refine codeC_rel h x fun o fr σ => ?_
   cases o with
   | normal => exact codeC_rel h y hQ
   | _ => exact hQ _ _ _
 | .cond c x y,fr,_,_,_,hQ => by
  simp only [codeC]
  cases evP fr c with
  | bool b =>
   cases b with
   | true => exact codeC_rel h x hQ
   | false => exact codeC_rel h y hQ
  | _ => exact h.fail _
 | .block id x,_,_,_,_,hQ => by
  simp only [codeC]
  refine codeC_rel h x fun o fr σ => ?_
  cases o with
  | exit id' => exact ite_rel h (fun _ => hQ _ _ _) (fun _ => hQ _ _ _)
  | _ => exact hQ _ _ _
 | .loop x,_,_,_,_,hQ => by
  simp only [codeC]
  cases an.at_ (firstReg x) with
  | none => exact h.fail _
  | some kp =>
   simp only
   refine toPack_rel h fun y => h.loop fun Φ Φ' hΦ y σ => codeC_rel h x fun o fr σ => ?_
   cases o with
   | normal => exact toPack_rel h fun x => hΦ _ _
   | _ => exact hQ _ _ _
 | .rangeFunc _ _ _ _,_,_,_,_,hQ => h.fail _
 | .scope _,_,_,_,_,hQ => h.fail _
 | .goto _,_,_,_,_,hQ => h.fail _
 | .refuse _,_,_,_,_,hQ => h.fail _
theorem deferC_rel (h : AlgRel r A B) {ann : FuncId → Ann} {g : FuncId} {caps : List PV} {m : Option PV} {σ : St} {K : Option PV → St → ρ} {K' : Option PV → St → ρ'} (hK : ∀ m σ,r (K m σ) (K' m σ)) :
  r (deferC A P ann g caps m σ K) (deferC B P ann g caps m σ K') := by
 unfold deferC
 split
 ·split
  ·split
   ·refine ite_rel h (fun _ => ?_) (fun _ => h.fail _)
    refine opsC_rel h _ _ (fun fr σ => codeC_rel h _ fun o fr σ => ?_) (fun _ _ _ => h.fail _)
    split
    ·cases o with
     | normal => exact hK _ _
     | ret => exact hK _ _
     | exit _ => exact h.fail _
     | pan v =>
      simp only
      split
      ·exact hK _ _
      ·exact h.fail _
    ·exact h.fail _
   ·exact h.fail _
  ·exact h.fail _
 ·exact h.fail _
theorem leaveC_rel (h : AlgRel r A B) {ann : FuncId → Ann} {σ₀ : St} {R : Res → St → ρ} {R' : Res → St → ρ'} (hR : ∀ x σ,r (R x σ) (R' x σ)) {fn : Func} {fr : Fr} : ∀ (l : List (FuncId × List PV)) (m : Option PV) (σ' : St),
  r (leaveC A P ann σ₀ R fn fr l m σ') (leaveC B P ann σ₀ R' fn fr l m σ')
 | [],none,σ' => bindO_rel h fun vs => h.weak fun v σ => hR _ _
 | [],some v,σ' => hR _ _
 | d :: ds,m,σ' => deferC_rel h fun m σ => leaveC_rel h hR ds m σ
theorem bodyC_rel (h : AlgRel r A B) {ann : FuncId → Ann} {f : FuncId} {args : List PV} {σ : St} {R : Res → St → ρ} {R' : Res → St → ρ'} (hR : ∀ x σ,r (R x σ) (R' x σ)) :
  r (bodyC A P ann f args σ R) (bodyC B P ann f args σ R') := by
 unfold bodyC
 cases (ann f).ext with
 | some g => exact bindO_rel h fun x => hR _ _
 | none =>
  simp only
  cases P.funcs[f]? with
  | none => exact h.fail _
  | some fn =>
   simp only
   cases fn.body with
   | none => exact h.fail _
   | some c =>
    simp only
    refine codeC_rel h c fun o fr σ' => ?_
    cases o with
    | normal => exact leaveC_rel h hR _ _ _
    | ret => exact leaveC_rel h hR _ _ _
    | pan v => exact leaveC_rel h hR _ _ _
    | exit _ => exact h.fail _
end
theorem algP_mono {call call' : CallP} (hc : ∀ {f args σ R R'},(∀ x σ,R x σ → R' x σ) → call f args σ R → call' f args σ R') : AlgRel (fun p q : Prop => p → q) (algP call) (algP call') where
 fail q h := h.elim
 call hR h := hc hR h
 same hpq h := ⟨h.1,hpq h.2⟩
 loop := by
  intro n F F' x σ hF h Φ' hΦ'
  exact h Φ' fun x σ hx => hΦ' x σ (hF Φ' Φ' (fun _ _ h => h) x σ hx)
 all := fun hK h p hp => hK _ _ (h p hp)
 cut := by
  rintro n a a' b b' ha hb ⟨J,h1,h2⟩
  exact ⟨J,fun x σ hx => (h1 x σ hx).imp (hb x σ) (fun ⟨x',σ',hw,h⟩ => ⟨x',σ',hw,hb x' σ' h⟩),ha J J (fun _ _ h => h) h2⟩
 weak := by
  rintro σ₀ v σ' K K' hK ⟨v',σ'',h1,h2⟩
  exact ⟨v',σ'',h1,hK _ _ h2⟩
 both := fun hp hq h => ⟨hp h.1,hq h.2⟩
theorem callW_mono {P : Program} {ann : FuncId → Ann} {f : FuncId} {args : List PV} {σ : St} {R R' : Res → St → Prop} (hR : ∀ x σ,R x σ → R' x σ) (h : callW P ann f args σ R) : callW P ann f args σ R' := by
 have := h (fun f args σ R => ∀ R' : Res → St → Prop,(∀ x σ,R x σ → R' x σ) → callW P ann f args σ R') (by
  intro f args σ R hb R' hR Φ hΦ
  refine hΦ _ _ _ _ ?_
  refine bodyC_rel (algP_mono ?_) hR hb
  intro f args σ R R' hR hc
  exact hc R' hR Φ hΦ)
 exact this R' hR
theorem callW_fold {P : Program} {ann : FuncId → Ann} {f : FuncId} {args : List PV} {σ : St} {R : Res → St → Prop} (h : bodyC (algP (callW P ann)) P ann f args σ R) : callW P ann f args σ R := by
 intro Φ hΦ
 refine hΦ _ _ _ _ (bodyC_rel (algP_mono ?_) (fun _ _ h => h) h)
 intro f args σ R R' hR hc
 exact callW_mono hR hc Φ hΦ
end Go.Abs

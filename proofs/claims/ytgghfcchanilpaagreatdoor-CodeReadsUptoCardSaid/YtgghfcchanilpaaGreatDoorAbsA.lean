import Derived.Defers
import Derived.Orders
import Derived.KernelRfl
import Derived.Laws.Sem
import Derived.Test.YtgghfcchanilpaaGreatDoorGlob
set_option linter.unusedVariables false
set_option linter.unusedSimpArgs false
namespace Go.Abs
inductive Blk where
 | arr (g sz : Nat) (xs : List PV)
 | map (v : Nat) (es : List (PV × PV))
 | iter (m : Option (Nat × Nat)) (last : Option Nat) (left : List Nat)
 | dead
 deriving Inhabited
abbrev St := List Blk
inductive EV where
 | v (x : PV)
 | loc (s off : Nat)
 deriving Inhabited
inductive Res where
 | ret (v : PV)
 | pan (v : PV)
structure Fr where
 env : Nat → EV
 loc : Nat → PV
 dfr : List (FuncId × List PV)
inductive Out where
 | normal
 | exit (id : Nat)
 | ret
 | pan (v : PV)
def PV.cells? : PV → Option (List PV)
 | .any => none
 | .tuple _ => none
 | .agg cs => some cs
 | x => some [x]
def Mi : Value → PV
 | .bool b => .bool b
 | .int k n => .int k n
 | .string s => .str s.data.toList
 | .pointer a => match a with
  | none => .nilptr
  | some _ => .any
 | .slice a l c => match a with
  | none => if l = 0 ∧ c = 0 then .list .nil [] else .any
  | some _ => .any
 | .map r => match r with
  | none => .nilmap
  | some _ => .any
 | .func fn a c => match fn with
  | .func f => if a.size = 0 ∧ c.size = 0 then .func f 0 [] else .any
  | _ => .any
 | .nilFunc => .nilfunc
 | .nilIface => .nilIface
 | _ => .any
def Mp : Value → PV
 | .agg cs => if cs.toList.all (·.oneCell') then .agg (cs.toList.map Mi) else .any
 | .tuple vs => if vs.size = 0 then .tuple [] else .any
 | v => Mi v
def Qg {α ρ : Type} (fail : ρ) : Option α → (α → ρ) → ρ
 | some a,K => K a
 | none,_ => fail
def Q6 (agg : Bool) (sz : Nat) (e : PV) (off : Nat) : Option PV :=
 match agg with
 | true =>
  match e with
  | .agg cs => if off = 0 ∧ cs.length = sz then some (.agg cs) else if off + sz ≤ cs.length then some (.agg ((cs.drop off).take sz)) else none
  | _ => none
 | false =>
  match e.cells? with
  | some cs => cs[off]?
  | none => none
def Q4 (agg : Bool) (sz : Nat) (p : PV) (σ : St) : Option PV :=
 match p with
 | .eptr e off => Q6 agg sz e off
 | .ptr b g i off =>
  match σ[b]? with
  | some (.arr g' _ xs) => if g = g' then (match xs[i]? with | some e => Q6 agg sz e off | none => none) else none
  | _ => none
 | _ => none
def Z5 (cs : List PV) (off : Nat) (ws : List PV) : List PV := cs.take off ++ ws ++ cs.drop (off + ws.length)
def Qv (sz : Nat) (e : PV) (off : Nat) (x : PV) : Option PV :=
 match x.cells? with
 | none => none
 | some ws =>
  if ws.length = sz then
   match e with
   | .agg cs => if off + sz ≤ cs.length then some (.agg (Z5 cs off ws)) else none
   | .any => none
   | .tuple _ => none
   | _ => if off = 0 ∧ sz = 1 then ws.head? else none
  else none
def QQ (sz : Nat) (p x : PV) (σ : St) : Option St :=
 match p with
 | .ptr b g i off =>
  match σ[b]? with
  | some (.arr g' z xs) =>
   if g = g' then
    match xs[i]? with
    | some e => match Qv sz e off x with
     | some e' => some (σ.set b (.arr g' z (xs.set i e')))
     | none => none
    | none => none
   else none
  | _ => none
 | _ => none
def Qh (o : Nat) (p : PV) : Option PV :=
 match p with
 | .ptr b g i off => some (.ptr b g i (off + o))
 | .eptr e off => some (.eptr e (off + o))
 | _ => none
def Q5 (sz : Nat) (x i : PV) : Option PV :=
 match x,i with
 | .list _ xs,.int _ n =>
  if 0 ≤ n then
   match xs[n.toNat]? with
   | some e => match e.cells? with
    | some cs => if cs.length = sz then some (.eptr e 0) else none
    | none => none
   | none => none
  else none
 | .sref b g z off len,.int _ n => if 0 ≤ n ∧ n < len ∧ z = sz then some (.ptr b g (off + n.toNat) 0) else none
 | _,_ => none
def TL (sz n : Nat) (i : PV) : Option Nat :=
 match i with
 | .int _ j => if 0 ≤ j ∧ j < n then some (j.toNat * sz) else none
 | _ => none
def I9 (f : Nat → Option PV) : Nat → Option (List PV)
 | 0 => some []
 | n + 1 => match I9 f n with
  | some l => match f n with
   | some x => some (l ++ [x])
   | none => none
  | none => none
def Nj (ag : Bool) (sz n : Nat) (p : PV) : Option PV :=
 match p with
 | .eptr e off => match I9 (fun i => Q6 ag sz e (off + i * sz)) n with
  | some xs => some (.list .part xs)
  | none => none
 | _ => none
def Xt (x i : PV) : Option PV :=
 match x,i with
 | .str l,.int _ n => if 0 ≤ n then (match l[n.toNat]? with | some b => some (.int .u8 b.toNat) | none => none) else none
 | _,_ => none
def TP (sz : Nat) (x : PV) : Option PV :=
 match x.cells? with
 | some cs => if cs.length = sz then some x else none
 | none => none
def QF : List PV → List (Nat × Nat × PV) → Option (List PV)
 | cs,[] => some cs
 | cs,(off,sz,x) :: rest =>
  match x.cells? with
  | some ws => if ws.length = sz ∧ off + sz ≤ cs.length then QF (Z5 cs off ws) rest else none
  | none => none
def QI (sz : Nat) : List PV → List (Nat × PV) → Option (List PV)
 | xs,[] => some xs
 | xs,(i,x) :: rest =>
  match x.cells? with
  | some ws => if ws.length = sz ∧ i < xs.length then QI sz (xs.set i x) rest else none
  | none => none
def bound (x : Option PV) (dflt : Nat) : Option Nat :=
 match x with
 | none => some dflt
 | some (.int _ n) => if 0 ≤ n then some n.toNat else none
 | some _ => none
def QZ (sz : Nat) (xs : List PV) : Bool :=
 match xs with
 | [] => true
 | x :: _ => match x.cells? with
  | some cs => cs.length == sz
  | none => false
def Xg (x : PV) (lo hi : Option PV) : Option PV :=
 match x with
 | .str l =>
  match bound lo 0,bound hi l.length with
  | some a,some b => if a ≤ b ∧ b ≤ l.length then some (.str ((l.take b).drop a)) else none
  | _,_ => none
 | _ => none
def LK.sub (k : LK) (all : Bool) : LK :=
 match k with
 | .nil => .nil
 | .full => if all then .full else .part
 | .part => .part
def XN (sz : Nat) (x : PV) (lo hi : Option PV) : Option PV :=
 match x with
 | .list k xs =>
  match bound lo 0,bound hi xs.length with
  | some a,some b => if a ≤ b ∧ b ≤ xs.length ∧ QZ sz xs = true then some (.list (k.sub (b == xs.length)) ((xs.take b).drop a)) else none
  | _,_ => none
 | .sref b g z off len =>
  match bound lo 0,bound hi len with
  | some a,some b' => if z = sz ∧ a ≤ b' ∧ b' ≤ len ∧ a < len then some (.sref b g z (off + a) (b' - a)) else if a = b' ∧ b' ≤ len then some (.list .part []) else none
  | _,_ => none
 | _ => none
def Xn (x : PV) (σ : St) : Option (List PV) :=
 match x with
 | .list _ xs => some xs
 | .str l => some (l.map fun b => .int .u8 b.toNat)
 | .sref b g z off len =>
  match σ[b]? with
  | some (.arr g' _ xs) => if g = g' ∧ off + len ≤ xs.length then some ((xs.drop off).take len) else none
  | _ => none
 | _ => none
def roomy (n bytes : Nat) : Bool := n * bytes ≤ 140737488355328
def tyG (g : Nat) : Nat := g % 4194304 / 4
def Sm (g : Nat) : Nat := (g / 4 + 1) * 4
def Ye (tg g off : Nat) : Nat := if tg ≠ 0 ∧ g % 4194304 = tg ∧ off = 0 then g + 4194304 else Sm g
def QM (sz bytes : Nat) (s y : PV) (σ : St) : Option (PV × St) :=
 match Xn y σ with
 | none => none
 | some ys =>
  match s with
  | .list k xs =>
   if ys.isEmpty then some (.list k xs,σ)
   else if k ≠ .part ∧ roomy (xs.length + ys.length) bytes = true ∧ QZ sz xs = true ∧ QZ sz ys = true then
    some (.sref σ.length 0 sz 0 (xs.length + ys.length),σ ++ [.arr 0 sz (xs ++ ys)])
   else none
  | .sref b g z off len =>
   if ys.isEmpty then some (.sref b g z off len,σ)
   else
    match σ[b]? with
    | some (.arr g' _ xs) =>
     if g = g' ∧ z = sz ∧ off + len ≤ xs.length ∧ roomy (len + ys.length) bytes = true ∧ QZ sz ys = true then
      if off + len + ys.length ≤ xs.length then some (.sref b g sz off (len + ys.length),σ.set b (.arr g sz (xs.take (off + len) ++ ys ++ xs.drop (off + len + ys.length))))
      else some (.sref b (Sm g) sz 0 (len + ys.length),σ.set b (.arr (Sm g) sz ((xs.drop off).take len ++ ys)))
     else none
    | _ => none
  | _ => none
def UX (tg sz bytes : Nat) (s y : PV) (σ : St) : Option (PV × St) :=
 match Xn y σ with
 | none => none
 | some ys =>
  match s with
  | .list k xs =>
   if ys.isEmpty then some (.list k xs,σ)
   else if k ≠ .part ∧ roomy (xs.length + ys.length) bytes = true ∧ QZ sz xs = true ∧ QZ sz ys = true then
    some (.sref σ.length tg sz 0 (xs.length + ys.length),σ ++ [.arr tg sz (xs ++ ys)])
   else none
  | .sref b g z off len =>
   if ys.isEmpty then some (.sref b g z off len,σ)
   else
    match σ[b]? with
    | some (.arr g' _ xs) =>
     if g = g' ∧ z = sz ∧ off + len ≤ xs.length ∧ roomy (len + ys.length) bytes = true ∧ QZ sz ys = true then
      if off + len + ys.length ≤ xs.length then some (.sref b g sz off (len + ys.length),σ.set b (.arr g sz (xs.take (off + len) ++ ys ++ xs.drop (off + len + ys.length))))
      else some (.sref b (Ye tg g off) sz 0 (len + ys.length),σ.set b (.arr (Ye tg g off) sz ((xs.drop off).take len ++ ys)))
     else none
    | _ => none
  | _ => none
def U2 (sz bytes : Nat) (z s y : PV) (σ : St) : Option (PV × St) :=
 match s,y with
 | .list .nil [],.int _ n => if 0 < n ∧ roomy n.toNat bytes = true then some (.sref σ.length 0 sz 0 n.toNat,σ ++ [.arr 0 sz (List.replicate n.toNat z)]) else none
 | _,_ => none
theorem MI (sz bytes : Nat) (s y : PV) (σ : St) : UX 0 sz bytes s y σ = QM sz bytes s y σ := by
 simp only [UX,QM,Ye,ne_eq,not_true,false_and,if_false]
def TF (sz bytes : Nat) (zero : PV) (len cap : PV) (σ : St) : Option (PV × St) :=
 match len,cap with
 | .int _ l,.int _ c =>
  if 0 ≤ l ∧ l = c ∧ roomy c.toNat bytes = true then
   match TP sz zero with
   | some z => some (.sref σ.length 0 sz 0 l.toNat,σ ++ [.arr 0 sz (List.replicate l.toNat z)])
   | none => none
  else none
 | _,_ => none
inductive GH where
 | str | sl | map
 deriving DecidableEq
def Qj (k : GH) (x : PV) (σ : St) : Option PV :=
 match k,x with
 | .str,.str l => some (.int .i64 l.length)
 | .sl,.list _ xs => some (.int .i64 xs.length)
 | .sl,.sref _ _ _ _ len => some (.int .i64 len)
 | .map,.nilmap => some (.int .i64 0)
 | .map,.mref b => match σ[b]? with
  | some (.map _ es) => some (.int .i64 es.length)
  | _ => none
 | _,_ => none
inductive EK1 where
 | bool | int | str
 deriving DecidableEq
inductive EK where
 | bool | ptr | sl | map | fn | ifc
 | st (ks : List EK1)
 deriving DecidableEq
def Vc (k : EK1) (x y : PV) : Option Bool :=
 match k,x,y with
 | .bool,.bool a,.bool b => some (a == b)
 | .int,.int k a,.int k' b => if k = k' then some (a == b) else none
 | .str,.str a,.str b => some (a == b)
 | _,_,_ => none
def Vm : List EK1 → List PV → List PV → Option Bool
 | [],[],[] => some true
 | k :: ks,x :: xs,y :: ys =>
  match Vc k x y with
  | some true => Vm ks xs ys
  | some false => some false
  | none => none
 | _,_,_ => none
def vEq (k : EK) (x y : PV) : Option Bool :=
 match k,x,y with
 | .st ks,.agg xs,.agg ys => Vm ks xs ys
 | .bool,.bool a,.bool b => some (a == b)
 | .ptr,.nilptr,.nilptr => some true
 | .ptr,.nilptr,.ptr .. => some false
 | .ptr,.nilptr,.eptr .. => some false
 | .ptr,.ptr ..,.nilptr => some false
 | .ptr,.eptr ..,.nilptr => some false
 | .sl,.list k _,.list .nil _ => some (k == .nil)
 | .sl,.sref ..,.list .nil _ => some false
 | .map,.nilmap,.nilmap => some true
 | .map,.mref _,.nilmap => some false
 | .fn,.nilfunc,.nilfunc => some true
 | .fn,.func ..,.nilfunc => some false
 | .ifc,.nilIface,.nilIface => some true
 | .ifc,.nilIface,.iface .. => some false
 | .ifc,.iface ..,.nilIface => some false
 | _,_,_ => none
def Y2 (op : BinOp) (k : IntKind) (a b : Int) : Option PV :=
 match op with
 | .add => some (.int k (k.wrap (a + b)))
 | .sub => some (.int k (k.wrap (a - b)))
 | .mul => some (.int k (k.wrap (a * b)))
 | .quo => if b = 0 then none else some (.int k (k.wrap (a.tdiv b)))
 | .rem => if b = 0 then none else some (.int k (a.tmod b))
 | .and => some (.int k (k.wrap (BitVec.ofInt k.bits a &&& BitVec.ofInt k.bits b).toNat))
 | .or => some (.int k (k.wrap (BitVec.ofInt k.bits a ||| BitVec.ofInt k.bits b).toNat))
 | .xor => some (.int k (k.wrap (BitVec.ofInt k.bits a ^^^ BitVec.ofInt k.bits b).toNat))
 | .andNot => some (.int k (k.wrap (BitVec.ofInt k.bits a &&& ~~~BitVec.ofInt k.bits b).toNat))
 | .lss => some (.bool (decide (a < b)))
 | .leq => some (.bool (decide (a ≤ b)))
 | .gtr => some (.bool (decide (a > b)))
 | .geq => some (.bool (decide (a ≥ b)))
 | .eql => some (.bool (a == b))
 | .neq => some (.bool (a != b))
 | _ => none
def LL (op : BinOp) (k : IntKind) (a b : Int) : Option PV :=
 if b < 0 then none else
 match op with
 | .shl => some (.int k (k.wrap (a * 2 ^ (min b.toNat k.bits))))
 | .shr => some (.int k (a.fdiv (2 ^ (min b.toNat k.bits))))
 | _ => none
def P1 (op : BinOp) (a b : List UInt8) : Option PV :=
 match op with
 | .add => if a.length + b.length ≤ 4611686018427387904 then some (.str (a ++ b)) else none
 | .eql => some (.bool (a == b))
 | .neq => some (.bool !(a == b))
 | .lss => some (.bool (Op.bytesLess a b))
 | .leq => some (.bool (Op.bytesLess a b || a == b))
 | .gtr => some (.bool !(Op.bytesLess a b || a == b))
 | .geq => some (.bool !(Op.bytesLess a b))
 | _ => none
def QR (ek : Option EK) (op : BinOp) (x y : PV) : Option PV :=
 match op,x,y with
 | .shl,.int k a,.int _ b => LL .shl k a b
 | .shr,.int k a,.int _ b => LL .shr k a b
 | op,.int k a,.int k' b => if k = k' then Y2 op k a b else none
 | op,.str a,.str b => P1 op a b
 | .eql,x,y => match ek with
  | some k => (match vEq k x y with | some b => some (.bool b) | none => none)
  | none => none
 | .neq,x,y => match ek with
  | some k => (match vEq k x y with | some b => some (.bool !b) | none => none)
  | none => none
 | _,_,_ => none
def vUn (op : UnOp) (x : PV) : Option PV :=
 match op,x with
 | .not,.bool b => some (.bool !b)
 | .neg,.int k n => some (.int k (k.wrap (0 - n)))
 | .xor,.int k n => Y2 .xor k (if k.signed then -1 else k.max) n
 | _,_ => none
def Qc (c a b : PV) : Option PV :=
 match c with
 | .bool true => some a
 | .bool false => some b
 | _ => none
def XY (k : IntKind) (x : PV) : Option PV :=
 match x with
 | .int _ n => some (.int k (k.wrap n))
 | _ => none
def Z3 : List PV → Option (List UInt8)
 | [] => some []
 | .int .u8 n :: l => match Z3 l with
  | some r => some (UInt8.ofNat n.toNat :: r)
  | none => none
 | _ :: _ => none
def Zf (x : PV) (σ : St) : Option PV :=
 match x with
 | .str _ => none
 | x => match Xn x σ with
  | some xs => match Z3 xs with
   | some l => some (.str l)
   | none => none
  | none => none
def Ua (tg : Nat) (x : PV) (σ : St) : Option (PV × St) :=
 match x with
 | .str l => if l.length ≤ 140737488355328 then
   (match l with
   | [] => some (.list .part [],σ)
   | _ => some (.sref σ.length tg 1 0 l.length,σ ++ [.arr tg 1 (l.map fun b => .int .u8 b.toNat)]))
  else none
 | _ => none
inductive CvK where
 | mark
 | int (k : IntKind)
 | toStr
 | same
 | toBytes (e : Nat)
def X0 (x : PV) (i : Nat) : Option PV :=
 match x with
 | .tuple vs => vs[i]?
 | _ => none
def Nf (ag : Bool) (sz : Nat) (x : PV) (off : Nat) : Option PV :=
 match x with
 | .agg cs => Q6 ag sz (.agg cs) off
 | _ => none
def HB (x : PV) : Option PV :=
 match x with
 | .list .nil [] => some (.int .i64 0)
 | .list .full xs => some (.int .i64 xs.length)
 | _ => none
def Vb (x : PV) : Option PV :=
 match x with
 | .ptr b g i o => some (.ptr b g i o)
 | .eptr e o => some (.eptr e o)
 | .func f k c => some (.func f k c)
 | _ => none
def V6 (k : EK1) (key : PV) : List (PV × PV) → Nat → Option (Option (Nat × PV))
 | [],_ => some none
 | e :: es,i => match Vc k key e.1 with
  | some true => some (some (i,e.2))
  | some false => V6 k key es (i + 1)
  | none => none
def isKey (k : EK1) (key : PV) : Bool :=
 match k,key with
 | .bool,.bool _ => true
 | .int,.int .. => true
 | .str,.str _ => true
 | _,_ => false
def Y5 (k : EK1) (z : PV) (ok : Bool) (m key : PV) (σ : St) : Option PV :=
 match m with
 | .nilmap => if isKey k key then some (if ok then .tuple [z,.bool false] else z) else none
 | .mref b => match σ[b]? with
  | some (.map _ es) => if isKey k key then (match V6 k key es 0 with
   | some (some (_,v)) => some (if ok then .tuple [v,.bool true] else v)
   | some none => some (if ok then .tuple [z,.bool false] else z)
   | none => none) else none
  | _ => none
 | _ => none
def Zh (k : EK1) (m key v : PV) (σ : St) : Option St :=
 match m with
 | .mref b => match σ[b]? with
  | some (.map n es) => if isKey k key then (match V6 k key es 0 with
   | some (some (i,_)) => some (σ.set b (.map (n + 1) (es.set i (key,v))))
   | some none => some (σ.set b (.map (n + 1) (es ++ [(key,v)])))
   | none => none) else none
  | _ => none
 | _ => none
def Np (k : EK1) (m key : PV) (σ : St) : Option St :=
 match m with
 | .mref b => match σ[b]? with
  | some (.map n es) => if isKey k key then (match V6 k key es 0 with
   | some (some (i,_)) => some (σ.set b (.map (n + 1) (es.eraseIdx i)))
   | some none => some (σ.set b (.map (n + 1) es))
   | none => none) else none
  | _ => none
 | _ => none
def NW (m : PV) (σ : St) : Option (PV × St) :=
 match m with
 | .nilmap => some (.ptr σ.length 0 0 0,σ ++ [.iter none none []])
 | .mref b => match σ[b]? with
  | some (.map n es) => some (.ptr σ.length 0 0 0,σ ++ [.iter (some (b,n)) none (List.range es.length)])
  | _ => none
 | _ => none
def Ia (p : PV) (σ : St) : Option (List (PV × St)) :=
 match p with
 | .ptr b 0 0 0 => match σ[b]? with
  | some (.iter none _ _) => some [(.tuple [.bool false],σ)]
  | some (.iter (some (mb,n)) last left) => (match σ[mb]? with
   | some (.map n' es) => if n' = n then
     match left with
     | [] => some [(.tuple [.bool false],σ)]
     | _ => some (left.map fun i => (.tuple [.bool true,.any,.any],σ.set b (.iter (some (mb,n)) (some i) (left.erase i))))
    else none
   | _ => none)
  | _ => none
 | _ => none
def Tq (p : PV) (σ : St) : Option PV :=
 match p with
 | .ptr b 0 0 0 => match σ[b]? with
  | some (.iter (some (mb,n)) (some i) _) => (match σ[mb]? with
   | some (.map n' es) => if n' = n then (match es[i]? with
    | some e => some (.tuple [e.1,e.2])
    | none => none) else none
   | _ => none)
  | _ => none
 | _ => none
def qy (x y : PV) : Option PV :=
 match x,y with
 | .int k a,.int k' b => if k = k' then some (.int k (if b < a then b else a)) else none
 | _,_ => none
def qL (x y : PV) : Option PV :=
 match x,y with
 | .int k a,.int k' b => if k = k' then some (.int k (if a < b then b else a)) else none
 | _,_ => none
def V5 (t : TypeId) (z : PV) (ok : Bool) (x : PV) : Option PV :=
 match x with
 | .iface t' v => if t' = t then some (if ok then .tuple [v,.bool true] else v) else if ok then some (.tuple [z,.bool false]) else none
 | .nilIface => if ok then some (.tuple [z,.bool false]) else none
 | _ => none
end Go.Abs
namespace Go.Abs
structure Alg (ρ : Type) where
 fail : ρ
 call : FuncId → List PV → St → (Res → St → ρ) → ρ
 same : St → St → ρ → ρ
 all : List (PV × St) → (PV → St → ρ) → ρ
 loop : St → (((Nat → PV) → St → ρ) → (Nat → PV) → St → ρ) → (Nat → PV) → St → ρ
 cut : St → (((Nat → PV) → St → ρ) → ρ) → ((Nat → PV) → St → ρ) → ρ
 weak : St → PV → St → (PV → St → ρ) → ρ
 both : ρ → ρ → ρ
structure Ann where
 locs : List Nat
 keep : List (Nat × List Nat × List Nat)
 cuts : List Nat
 draws : List (Nat × List (Nat × Bool × Bool)) := []
 alts : List (Nat × List (Nat × Bool × Bool)) := []
 ext : Option (List PV → St → Option (PV × St)) := none
 base : St := []
 deriving Inhabited
def EV.pv : EV → PV
 | .v x => x
 | .loc _ _ => .any
def Q9 : List (Nat × EV) → Nat → EV
 | [],_ => .v .any
 | (k,x) :: l,n => if n = k then x else Q9 l n
def Qz : List (Nat × PV) → Nat → PV
 | [],_ => .any
 | (k,x) :: l,n => if n = k then x else Qz l n
def J5 : List (Nat × List Nat × List Nat) → Nat → Option (List Nat × List Nat)
 | [],_ => none
 | (k,x) :: l,n => if n = k then some x else J5 l n
def Ann.at_ (an : Ann) (k : Option Nat) : Option (List Nat × List Nat) :=
 match k with
 | none => none
 | some k => J5 an.keep k
def Hb (live lc : List Nat) (fr : Fr) : List (Nat × PV) := live.map (fun t => (t,(fr.env t).pv)) ++ lc.map (fun s => (s,fr.loc s))
def Jy (live lc : List Nat) (fr : Fr) : Nat → PV := Qz (Hb live lc fr)
def unpack (live lc : List Nat) (x : Nat → PV) : Fr :=
 {env := fun t => if lc.contains t then .loc t 0 else if live.contains t then .v (x t) else .v .any
  loc := fun s => if lc.contains s then x s else .any
  dfr := [] }
def Yv : Code → Option Nat
 | .region id _ _ => some id
 | .seq a b => match Yv a with
  | some k => some k
  | none => Yv b
 | .block _ b => Yv b
 | .loop b => Yv b
 | .scope b => Yv b
 | _ => none
def Ann.vb (an : Ann) (k : Option Nat) : Bool :=
 match k with
 | none => false
 | some k => an.cuts.contains k
def Fr.put (fr : Fr) (d : Option Nat) (x : EV) : Fr :=
 match d with
 | none => fr
 | some d => { fr with env := fun n => if n = d then x else fr.env n }
def Fr.Xh (fr : Fr) (d : Nat) (z : PV) : Fr :=
 { fr with
  env := fun n => if n = d then .loc d 0 else match fr.env n with
   | .loc s o => if s = d then .v .any else .loc s o
   | .v x => .v x
  loc := fun s => if s = d then z else fr.loc s }
def Fr.U6 (fr : Fr) (d : Nat) (z : PV) : Fr := { fr with loc := fun s => if s = d then z else fr.loc s }
def evE (fr : Fr) : Operand → EV
 | .tmp t => fr.env t
 | .const v => .v (Mp v)
 | .func f => .v (.func f 0 [])
 | .global g => .v (Zy g)
def evP (fr : Fr) (x : Operand) : PV := (evE fr x).pv
def ZC (P : Program) (t : TypeId) : Option Nat := (P.info? t).map (·.size)
def bytesOf (P : Program) (t : TypeId) : Option Nat := (P.info? t).map (·.bytes)
def zeroOf (P : Program) (t : TypeId) : Option PV :=
 match P.info? t with
 | some i => match i.zero with
  | some z => some (Mp z)
  | none => none
 | none => none
def PS (P : Program) (t : TypeId) : Option Bool :=
 match P.underlying t with
 | some (.struct _) => some true
 | some (.array ..) => some true
 | some _ => some false
 | none => none
def Tp (P : Program) (t : TypeId) (f : Nat) : Option Field :=
 match P.underlying t with
 | some (.struct fs) => fs[f]?
 | _ => none
def PK (P : Program) (t : TypeId) (f : Nat) : Option Nat :=
 match Tp P t f with
 | some fd => match ZC P fd.type with
  | some 0 => none
  | some _ => some fd.offset
  | none => none
 | none => none
def XT (P : Program) (t : TypeId) : Option TypeId :=
 match P.underlying t with
 | some (.slice e) => some e
 | _ => none
def Oy (P : Program) (t : TypeId) : Option (Nat × TypeId) :=
 match P.underlying t with
 | some (.array n e) => some (n,e)
 | _ => none
def intOf? (P : Program) (t : TypeId) : Option IntKind :=
 match P.underlying t with
 | some (.int k) => some k
 | _ => none
def XO (P : Program) (t : TypeId) : Option EK1 :=
 match P.underlying t with
 | some .bool => some .bool
 | some (.int _) => some .int
 | some .string => some .str
 | _ => none
def eqFields (P : Program) (E : TypeId → Option (List EK1)) : List Field → Nat → Option (List EK1)
 | [],_ => some []
 | f :: fs,k =>
  if f.name ≠ "_" ∧ f.offset = k then
   match E f.type with
   | some l1 => match eqFields P E fs (k + l1.length) with
    | some l => some (l1 ++ l)
    | none => none
   | none => none
  else none
def Ow (P : Program) : Nat → TypeId → Option (List EK1)
 | 0,t => (match XO P t with
  | some e => some [e]
  | none => none)
 | n + 1,t => match P.underlying t with
  | some (.struct fs) => if P.stoodInHeld t = false then (match eqFields P (Ow P n) fs.toList 0 with
   | some l => if ZC P t = some l.length then some l else none
   | none => none) else none
  | _ => (match XO P t with
   | some e => some [e]
   | none => none)
def HS (P : Program) (t : TypeId) (c : Bool) : Option EK :=
 match P.underlying t with
 | some (.struct fs) => if P.stoodInHeld t = false ∧ P.eqGuardType P.depth t = false then (match eqFields P (Ow P 2) fs.toList 0 with | some l => some (.st l) | none => none) else none
 | some (.interface _) => if c then some .ifc else none
 | some .bool => some .bool
 | some (.pointer _) => some .ptr
 | some (.slice _) => some .sl
 | some (.map ..) => some .map
 | some (.func ..) => some .fn
 | _ => none
def Operand.isConst : Operand → Bool
 | .const _ => true
 | _ => false
def Ft (P : Program) (t : TypeId) : Bool :=
 match P.underlying t with
 | some (.int _) => true
 | _ => false
def M7 (P : Program) (t : TypeId) : Bool :=
 match P.underlying t with
 | some (.slice _) => true
 | some .string => true
 | _ => false
def Ja (P : Program) (e : TypeId) : Nat :=
 match P.underlying e with
 | some (.int .u8) => if e < 1048576 then 4 * e + 3 else 0
 | _ => 0
def Aw (tg sz by_ : Nat) (s y : PV) (σ : St) : Option (PV × St) :=
 match tg with
 | 0 => QM sz by_ s y σ
 | tg + 1 => UX (tg + 1) sz by_ s y σ
theorem Cf (tg sz by_ : Nat) (s y : PV) (σ : St) : Aw tg sz by_ s y σ = UX tg sz by_ s y σ := by
 cases tg with
 | zero => exact (MI _ _ _ _ _).symm
 | succ n => rfl
def Ms (P : Program) (e : TypeId) : Bool :=
 match P.underlying e with
 | some (.int .u8) => true
 | _ => false
def OH (P : Program) (us : TypeDesc) (d : TypeId) : Option CvK :=
 match P.underlying d with
 | some (.int k) => some (.int k)
 | some .string => (match us with
  | .string => some .same
  | .slice e => if Ms P e then some .toStr else none
  | _ => none)
 | some (.slice e) => (match us with
  | .string => if Ms P e then some (.toBytes e) else none
  | .slice _ => if Ms P e then some .mark else none
  | _ => none)
 | _ => none
def VN (P : Program) (t : TypeId) : Option (TypeId × TypeId) :=
 match P.underlying t with
 | some (.map k e) => some (k,e)
 | _ => none
def Kd (P : Program) (t : TypeId) : Bool :=
 match P.underlying t with
 | some (.interface _) => false
 | some _ => true
 | none => false
def isStr (P : Program) (t : TypeId) : Bool :=
 match P.underlying t with
 | some .string => true
 | _ => false
def Fh (P : Program) (t : TypeId) : Option GH :=
 match P.underlying t with
 | some .string => some .str
 | some (.slice _) => some .sl
 | some (.map ..) => some .map
 | _ => none
section
variable {ρ : Type}
def placesOf (P : Program) (t : TypeId) : Option (List (Nat × Nat)) :=
 match P.underlying t with
 | some (.struct fields) => fields.toList.mapM (fun f => (P.info? f.type).map fun i => (f.offset,i.size))
 | some (.array n e) => (P.info? e).map fun i => (List.range n).map fun k => (k * i.size,i.size)
 | _ => none
def partsOf (pl : List (Nat × Nat)) (fr : Fr) : List (Nat × Operand) → Option (List (Nat × Nat × PV))
 | [] => some []
 | (i,x) :: l =>
   match pl[i]? with
   | none => none
   | some (off,sz) => match partsOf pl fr l with
       | none => none
       | some r => some ((off,sz,evP fr x) :: r)
def YB (vs : List PV) : PV :=
 match vs with
 | [v] => v
 | vs => .tuple vs
def UC (strict : Bool) (σ : St) : St := match strict with
 | true => []
 | false => σ
def A0 (name : String) (args : List PV) : Option PV := none
def YP (k : Nat) (args caps : List PV) : List PV :=
 match k with
 | 0 => args ++ caps
 | k + 1 => caps.take (k + 1) ++ args ++ caps.drop (k + 1)
def Zc (A : Alg ρ) (P : Program) (clean : Bool) (f : PV) (args : List PV) (σ : St) (K : PV → St → ρ) (X : PV → St → ρ) : ρ :=
 match f with
 | .func f k caps =>
  (match P.funcs[f]? with
  | some fn =>
   (match fn.body with
   | some _ => callK A clean f (YP k args caps) σ K X
   | none => Qg A.fail (A0 fn.name (YP k args caps)) fun v => K v σ)
  | none => A.fail)
 | _ => A.fail
where
 callK (A : Alg ρ) (clean : Bool) (f : FuncId) (args : List PV) (σ : St) (K : PV → St → ρ) (X : PV → St → ρ) : ρ :=
  A.call f args σ fun r σ' =>
   match clean with
   | true => A.same σ σ' (match r with
    | .ret v => K v σ
    | .pan v => A.fail)
   | false => (match r with
    | .ret v => K v σ'
    | .pan v => X v σ')
def Kg (A : Alg ρ) (strict : Bool) (X : PV → St → ρ) : PV → St → ρ :=
 match strict with
 | true => fun _ _ => A.fail
 | false => X
def opV (A : Alg ρ) (P : Program) (clean strict : Bool) (o : Oper) (fr : Fr) (σ : St) (K : EV → St → ρ) (X : PV → St → ρ) : ρ :=
 match o.op with
 | .move x => K (evE fr x) σ
 | .assign x => K (evE fr x) σ
 | .pick c a b => Qg A.fail (Qc (evP fr c) (evP fr a) (evP fr b)) fun x => K (.v x) σ
 | .build t parts =>
  Qg A.fail (placesOf P t) fun pl => Qg A.fail (partsOf pl fr parts.toList) fun ps =>
   Qg A.fail (zeroOf P t) fun z =>
    match z with
    | .agg zs => Qg A.fail (QF zs ps) fun cs => K (.v (.agg cs)) σ
    | _ => A.fail
 | .buildSlice t n parts =>
  Qg A.fail (XT P t) fun e => Qg A.fail (ZC P e) fun sz => Qg A.fail (zeroOf P e) fun z =>
   if n * sz ≤ 16777216 ∧ 0 < sz then
    Qg A.fail (TP sz z) fun z => Qg A.fail (QI sz (List.replicate n z) (parts.toList.map fun (i,x) => (i,evP fr x))) fun xs =>
     K (.v (.list .full xs)) σ
   else A.fail
 | .load t a =>
  Qg A.fail (PS P t) fun ag => Qg A.fail (ZC P t) fun sz =>
   match evE fr a with
   | .loc s off => (match clean with
    | true => A.fail
    | false => Qg A.fail (Q6 ag sz (fr.loc s) off) fun x => K (.v x) σ)
   | .v p => Qg A.fail (Q4 ag sz p (UC strict σ)) fun x => K (.v x) σ
 | .nilCheck x =>
  match evE fr x with
  | .loc s off => K (.loc s off) σ
  | .v p => Qg A.fail (Vb p) fun x => K (.v x) σ
 | .binOp op t x y _ =>
  Qg A.fail (QR (HS P t (Operand.isConst x || Operand.isConst y)) op (evP fr x) (evP fr y)) fun x => K (.v x) σ
 | .unOp op _ x => Qg A.fail (vUn op (evP fr x)) fun x => K (.v x) σ
 | .convert s d x => if UE s d = true then Qg A.fail (P.underlying s) fun us => Qg A.fail (OH P us d) fun c =>
   match c with
   | .int k => Qg A.fail (XY k (evP fr x)) fun x => K (.v x) σ
   | .same => (match evP fr x with
    | .str l => K (.v (.str l)) σ
    | _ => A.fail)
   | _ => A.fail
  else if Oj s d = true then Qg A.fail (P.underlying s) fun us => Qg A.fail (OH P us d) fun c =>
   match c with
   | .toStr => Qg A.fail (Zf (evP fr x) (UC strict σ)) fun x => K (.v x) σ
   | _ => A.fail
  else Qg A.fail (P.underlying s) fun us => Qg A.fail (OH P us d) fun c =>
   match c with
   | .mark => if s = d then (match evP fr x with
    | .list .full xs => if xs.isEmpty = false ∧ QZ 1 xs = true then K (.v (.list .full xs)) σ else A.fail
    | _ => A.fail) else A.fail
   | .toBytes e => Qg A.fail (Ua (Ja P e) (evP fr x) σ) fun r => K (.v r.1) r.2
   | _ => A.fail
 | .makeFunc fn first caps => (match fn with
  | .func f => if first.size = 0 then K (.v (.func f 0 (caps.toList.map (evP fr)))) σ else K (.v (.func f first.size (first.toList.map (evP fr) ++ caps.toList.map (evP fr)))) σ
  | _ => A.fail)
 | .makeSlice t l c =>
  Qg A.fail (XT P t) fun e => Qg A.fail (ZC P e) fun sz => Qg A.fail (bytesOf P e) fun by_ => Qg A.fail (zeroOf P e) fun z =>
   if 0 < sz ∧ 0 < by_ then Qg A.fail (TF sz by_ z (evP fr l) (evP fr c) σ) fun r => K (.v r.1) r.2 else A.fail
 | .slice t x lo hi mx => if mx.isSome then A.fail else
  if isStr P t then Qg A.fail (Xg (evP fr x) (lo.map (evP fr)) (hi.map (evP fr))) fun x => K (.v x) σ
  else match XT P t with
   | some e => Qg A.fail (ZC P e) fun sz => Qg A.fail (XN sz (evP fr x) (lo.map (evP fr)) (hi.map (evP fr))) fun x => K (.v x) σ
   | none => Qg A.fail (Oy P t) fun ne => Qg A.fail (ZC P ne.2) fun sz => Qg A.fail (PS P ne.2) fun ag =>
    if lo.isNone ∧ hi.isNone ∧ 0 < sz ∧ (ag = true ∨ sz = 1) then Qg A.fail (Nj ag sz ne.1 (evP fr x)) fun x => K (.v x) σ else A.fail
 | .fieldAddr t x f =>
  Qg A.fail (PK P t f) fun k =>
   match evE fr x with
   | .loc s off => K (.loc s (off + k)) σ
   | .v p => Qg A.fail (Qh k p) fun x => K (.v x) σ
 | .indexAddr t x i =>
  match XT P t with
  | some e => Qg A.fail (ZC P e) fun sz => Qg A.fail (Q5 sz (evP fr x) (evP fr i)) fun x => K (.v x) σ
  | none => Qg A.fail (Oy P t) fun ne => Qg A.fail (ZC P ne.2) fun sz => Qg A.fail (TL sz ne.1 (evP fr i)) fun k => Qg A.fail (Qh k (evP fr x)) fun x => K (.v x) σ
 | .index t x i => if isStr P t then Qg A.fail (Xt (evP fr x) (evP fr i)) fun x => K (.v x) σ else A.fail
 | .extract x i => Qg A.fail (X0 (evP fr x) i) fun x => K (.v x) σ
 | .makeInterface t x => (match P.underlying t with
  | some (.interface _) => A.fail
  | none => A.fail
  | some _ => K (.v (.iface t (evP fr x))) σ)
 | .panic x => (match evP fr x with
  | .iface t v => X (.iface t v) σ
  | _ => A.fail)
 | .call c =>
  match c.callee with
  | .builtin .len => (match c.args.toList,c.argTypes.toList with
   | [x],[t] => Qg A.fail (Fh P t) fun k => Qg A.fail (Qj k (evP fr x) (UC strict σ)) fun x => K (.v x) σ
   | _,_ => A.fail)
  | .builtin .append => (match c.args.toList,c.argTypes.toList with
   | [s,y],[t,t2] =>
    Qg A.fail (XT P t) fun e => Qg A.fail (ZC P e) fun sz => Qg A.fail (bytesOf P e) fun by_ => Qg A.fail (zeroOf P e) fun z => Qg A.fail (TP sz z) fun z =>
     if 0 < sz ∧ 0 < by_ ∧ by_ ≤ 1048576 ∧ M7 P t2 = true then Qg A.fail (Aw (Ja P e) sz by_ (evP fr s) (evP fr y) σ) fun r => K (.v r.1) r.2
     else if 0 < sz ∧ 0 < by_ ∧ by_ ≤ 1048576 ∧ Ft P t2 = true then Qg A.fail (U2 sz by_ z (evP fr s) (evP fr y) σ) fun r => K (.v r.1) r.2 else A.fail
   | _,_ => A.fail)
  | .builtin .min => (match c.args.toList with
   | [x,y] => Qg A.fail (qy (evP fr x) (evP fr y)) fun x => K (.v x) σ
   | _ => A.fail)
  | .builtin .max => (match c.args.toList with
   | [x,y] => Qg A.fail (qL (evP fr x) (evP fr y)) fun x => K (.v x) σ
   | _ => A.fail)
  | .builtin .cap => (match c.args.toList,c.argTypes.toList with
   | [x],[t] => Qg A.fail (XT P t) fun _ => Qg A.fail (HB (evP fr x)) fun x => K (.v x) σ
   | _,_ => A.fail)
  | .builtin .delete => (match c.args.toList,c.argTypes.toList with
   | [m,k],[t,_] => Qg A.fail (VN P t) fun ke => Qg A.fail (XO P ke.1) fun ek => Qg A.fail (Np ek (evP fr m) (evP fr k) σ) fun σ => K (.v (.tuple [])) σ
   | _,_ => A.fail)
  | .value f => Zc A P clean (evP fr f) (c.args.toList.map (evP fr)) σ (fun v σ => K (.v v) σ) (Kg A strict X)
  | _ => A.fail
 | .makeMap _ r => if r.isSome then A.fail else K (.v (.mref σ.length)) (σ ++ [.map 0 []])
 | .lookup t x i ok =>
  Qg A.fail (VN P t) fun ke => Qg A.fail (XO P ke.1) fun ek => Qg A.fail (zeroOf P ke.2) fun z =>
   Qg A.fail (Y5 ek z ok (evP fr x) (evP fr i) (UC strict σ)) fun x => K (.v x) σ
 | .mapUpdate t m k x =>
  Qg A.fail (VN P t) fun ke => Qg A.fail (XO P ke.1) fun ek => Qg A.fail (Zh ek (evP fr m) (evP fr k) (evP fr x) σ) fun σ => K (.v .any) σ
 | .insert t m k x =>
  Qg A.fail (VN P t) fun ke => Qg A.fail (XO P ke.1) fun ek => Qg A.fail (Zh ek (evP fr m) (evP fr k) (evP fr x) σ) fun σ => K (.v .any) σ
 | .field t x f =>
  Qg A.fail (Tp P t f) fun fd => Qg A.fail (ZC P fd.type) fun sz => Qg A.fail (PS P fd.type) fun ag => Qg A.fail (Nf ag sz (evP fr x) fd.offset) fun x => K (.v x) σ
 | .range t x => Qg A.fail (VN P t) fun _ => Qg A.fail (NW (evP fr x) σ) fun r => K (.v r.1) r.2
 | .next x s => if s then A.fail else Qg A.fail (Ia (evP fr x) σ) fun l => A.all l fun v σ => K (.v v) σ
 | .entry x => Qg A.fail (Tq (evP fr x) (UC strict σ)) fun x => K (.v x) σ
 | .typeAssert x _ t ok => if Kd P t then Qg A.fail (zeroOf P t) fun z => Qg A.fail (V5 t z ok (evP fr x)) fun x => K (.v x) σ else A.fail
 | _ => A.fail
def TN (P : Program) (t : TypeId) : Nat :=
 match Tp P t 0 with
 | some f => (match P.underlying f.type with
  | some (.pointer t') => if t' = t ∧ t < 1048576 then 4 * t + 1 else 0
  | _ => 0)
 | none => 0
def opC (A : Alg ρ) (P : Program) (locs : List Nat) (clean strict : Bool) (o : Oper) (fr : Fr) (σ : St) (K : Fr → St → ρ) (X : PV → Fr → St → ρ) : ρ :=
 match o.op with
 | .alloc t =>
  Qg A.fail (ZC P t) fun sz => Qg A.fail (zeroOf P t) fun z => Qg A.fail (TP sz z) fun z =>
   match o.dst with
   | some d => if locs.contains d then K (fr.Xh d z) σ else if 0 < sz then K (fr.put o.dst (.v (.ptr σ.length (TN P t) 0 0))) (σ ++ [.arr (TN P t) sz [z]]) else A.fail
   | none => A.fail
 | .box t x =>
  Qg A.fail (vBoxAny (evP fr x)) fun z =>
   match o.dst with
   | some d => if locs.contains d then K (fr.Xh d z.2) σ else if 0 < z.1 then K (fr.put o.dst (.v (.ptr σ.length 0 0 0))) (σ ++ [.arr 0 z.1 [z.2]]) else A.fail
   | none => A.fail
 | .store t a x =>
  Qg A.fail (ZC P t) fun sz =>
   match evE fr a with
   | .loc s off => (match clean with
    | true => A.fail
    | false => Qg A.fail (Qv sz (fr.loc s) off (evP fr x)) fun z => K ((fr.U6 s z).put o.dst (.v .any)) σ)
   | .v p => (match strict with
    | true => A.fail
    | false => Qg A.fail (QQ sz p (evP fr x) σ) fun σ => K (fr.put o.dst (.v .any)) σ)
 | .defer c =>
  match c.callee,c.args.toList with
  | .value f,[] => (match evP fr f with
   | .func g 0 caps => K { fr.put o.dst (.v .any) with dfr := (g,caps) :: fr.dfr } σ
   | _ => A.fail)
  | _,_ => A.fail
 | _ => opV A P clean strict o fr σ (fun e σ => K (fr.put o.dst e) σ) (fun v σ => X v fr σ)
where
 vBoxAny (x : PV) : Option (Nat × PV) := match x.cells? with
  | some cs => some (cs.length,x)
  | none => none
def gOk (g : PV) (want : Bool) : Option Bool :=
 match g with
 | .bool b => some (b == want)
 | .tuple [] => some false
 | _ => none
def XB (fail : ρ) (g : PV) (want : Bool) (op : ((Nat → EV) → St → ρ) → ρ) (σ : St) (K : (Nat → EV) → St → ρ) : ρ :=
 match gOk g want with
 | some true => op K
 | some false => K (fun _ => .v (.tuple [])) σ
 | none => fail
structure Task where
 i : Nat
 o : Oper
 clean : Bool
 strict : Bool
def Y6 (g : Nat × Bool) : List Task → List Task × List Task
 | [] => ([],[])
 | t :: ts => if t.o.guard = some g then (t :: (Y6 g ts).1,(Y6 g ts).2) else ([],t :: ts)
def Yl (d : Nat) (o : Oper) : Bool :=
 (match o.op with
 | .store .. => false
 | .alloc _ => false
 | .box .. => false
 | .defer _ => false
 | _ => true) && o.dst != some d
def dstsOf : List Task → List Nat
 | [] => []
 | t :: ts => match t.o.dst with
  | some d => d :: dstsOf ts
  | none => dstsOf ts
def Fr.LM (fr : Fr) (ds : List Nat) (y : Nat → EV) : Fr := { fr with env := fun n => if ds.contains n then y n else fr.env n }
def Gb (A : Alg ρ) (P : Program) : List Task → Fr → St → (Fr → St → ρ) → (PV → St → ρ) → ρ
 | [],fr,σ,K,_ => K fr σ
 | t :: ts,fr,σ,K,X => opV A P t.clean t.strict t.o fr σ (fun e σ => Gb A P ts (fr.put t.o.dst e) σ K X) X
def Ny (A : Alg ρ) (P : Program) (locs : List Nat) (all : List Oper) : Nat → List Task → Fr → St → (Fr → St → ρ) → (PV → Fr → St → ρ) → ρ
 | 0,ts,fr,σ,K,_ => match ts with
  | [] => K fr σ
  | _ => A.fail
 | n + 1,ts,fr,σ,K,X => match ts with
  | [] => K fr σ
  | t :: ts => match t.o.guard with
   | none => opC A P locs t.clean t.strict t.o fr σ (fun fr σ => Ny A P locs all n ts fr σ K X) X
   | some g => match all[g.1]? with
    | some oj => (match oj.dst with
     | some d =>
      if (t :: (Y6 g ts).1).all (fun t => Yl d t.o) then
       XB A.fail (fr.env d).pv g.2
        (fun J => Gb A P (t :: (Y6 g ts).1) fr σ (fun fr σ => J (Q9 ((dstsOf (t :: (Y6 g ts).1)).map fun d => (d,fr.env d))) σ) (fun v σ => X v fr σ)) σ
        (fun y σ => Ny A P locs all n (Y6 g ts).2 (fr.LM (dstsOf (t :: (Y6 g ts).1)) y) σ K X)
      else A.fail
     | none => A.fail)
    | none => A.fail
def Zw : Nat → List Oper → List Task
 | _,[] => []
 | i,o :: os => { i,o,clean := false,strict := false } :: Zw (i + 1) os
def Ym (ops : List Oper) : List (Nat × Bool × Bool) → Option (List Task)
 | [] => some []
 | (i,c,s) :: l =>
   match ops[i]? with
   | none => none
   | some o => match Ym ops l with
     | none => none
     | some ts => some ({ i,o,clean := c,strict := s } :: ts)
def Vk (A : Alg ρ) (fr : Fr) (p : ρ) : List Nat → ρ
 | [] => p
 | s :: l => match fr.env s with
  | .loc s' 0 => if s' = s then Vk A fr p l else A.fail
  | _ => A.fail
def Uk : List (Nat × List (Nat × Bool × Bool)) → Nat → Option (List (Nat × Bool × Bool))
 | [],_ => none
 | (k,x) :: l,n => if n = k then some x else Uk l n
def Jl (A : Alg ρ) (an : Ann) (id : Nat) (ops : List Oper) (run : List Task → ρ) : ρ :=
 match Uk an.draws id with
 | some l => (match Ym ops l with
  | some ts => (match Uk an.alts id with
   | none => run ts
   | some l' => (match Ym ops l' with
    | some ts' => A.both (run ts) (run ts')
    | none => A.fail))
  | none => A.fail)
 | none => A.fail
def UO {α : Type} (n : Nat) (K : Nat → α) : α :=
 match n with
 | 0 => K 0
 | m + 1 => K (m + 1)
theorem Ob {α : Type} (n : Nat) (K : Nat → α) : UO n K = K n := by cases n <;> rfl
def JW {α : Type} (n : Int) (K : Int → α) : α :=
 match n with
 | .ofNat m => UO m fun m => K (.ofNat m)
 | .negSucc m => UO m fun m => K (.negSucc m)
theorem Ht {α : Type} (n : Int) (K : Int → α) : JW n K = K n := by cases n <;> simp only [JW,Ob]
def JZ {α : Type} (v : PV) (K : PV → α) : α :=
 match v with
 | .int k n => JW n fun n => K (.int k n)
 | .sref b g z off len => UO b fun b => UO g fun g => UO off fun off => UO len fun len => K (.sref b g z off len)
 | .ptr b g i off => UO b fun b => UO g fun g => K (.ptr b g i off)
 | v => K v
theorem HD {α : Type} (v : PV) (K : PV → α) : JZ v K = K v := by
 cases v <;> simp only [JZ,Ob,Ht]
def M8 {α : Type} : List (Nat × PV) → (List (Nat × PV) → α) → α
 | [],K => K []
 | (t,v) :: l,K => JZ v fun v => M8 l fun l => K ((t,v) :: l)
theorem SF {α : Type} : ∀ (l : List (Nat × PV)) (K : List (Nat × PV) → α),M8 l K = K l
 | [],_ => rfl
 | (t,v) :: l,K => by rw [M8,HD,SF l]
def TW (A : Alg ρ) (kp : List Nat × List Nat) (fr : Fr) (K : (Nat → PV) → ρ) : ρ :=
 match fr.dfr with
 | [] => Vk A fr (M8 (Hb kp.1 kp.2 fr) fun l => K (Qz l)) kp.2
 | _ => A.fail
def Nx : List Oper → List Nat
 | [] => []
 | o :: os => match o.dst with
  | some d => d :: Nx os
  | none => Nx os
def Fr.mask (fr : Fr) (D : List Nat) (base : Fr) : Fr := { fr with env := fun t => if D.contains t then .v .any else .v (base.env t).pv }
def ZP (A : Alg ρ) (P : Program) (an : Ann) : Code → Fr → St → (Out → Fr → St → ρ) → ρ
 | .skip,fr,σ,Q => Q .normal fr σ
 | .region id ops draw,fr,σ,Q =>
  match draw with
  | true => Jl A an id ops.toList fun ts => Ny A P an.locs ops.toList ts.length ts fr σ (Q .normal) (fun v fr' => Q (.pan v) (fr'.mask (Nx ops.toList) fr))
  | false => Ny A P an.locs ops.toList ops.toList.length (Zw 0 ops.toList) fr σ (Q .normal) (fun v fr' => Q (.pan v) (fr'.mask (Nx ops.toList) fr))
 | .seq a b,fr,σ,Q =>
  if an.vb (Yv b) then
   match an.at_ (Yv b) with
   | some kp => A.cut an.base (fun J => ZP A P an a fr σ (fun o fr σ => match o with
    | .normal => TW A kp fr fun x => J x σ
    | o => Q o fr σ)) (fun x σ => ZP A P an b (unpack kp.1 kp.2 x) σ Q)
   | none => A.fail
  else ZP A P an a fr σ (fun o fr σ => match o with
    | .normal => ZP A P an b fr σ Q
    | o => Q o fr σ)
 | .cond c a b,fr,σ,Q =>
  match evP fr c with
  | .bool true => ZP A P an a fr σ Q
  | .bool false => ZP A P an b fr σ Q
  | _ => A.fail
 | .block id a,fr,σ,Q => ZP A P an a fr σ (fun o fr σ => match o with
   | .exit id' => if id' = id then Q .normal fr σ else Q (.exit id') fr σ
   | o => Q o fr σ)
 | .loop a,fr,σ,Q =>
  match an.at_ (Yv a) with
  | some kp => TW A kp fr fun x =>
    A.loop an.base (fun Φ x σ => ZP A P an a (unpack kp.1 kp.2 x) σ (fun o fr σ => match o with
     | .normal => TW A kp fr fun x => Φ x σ
     | o => Q o fr σ)) x σ
  | none => A.fail
 | .exit id,fr,σ,Q => Q (.exit id) fr σ
 | .label _,fr,σ,Q => Q .normal fr σ
 | .ret,fr,σ,Q => Q .ret fr σ
 | _,_,_,_ => A.fail
def Gq (o : Oper) : List Nat := (o.after.toList.filter (Region.binds .any)).map (·.on)
def Xp (ops : Array Oper) (j : Nat) : List Nat := match ops[j]? with
 | some o => Gq o
 | none => []
def YS : List (Nat × List Nat) → Nat → List Nat
 | [],_ => []
 | (k,x) :: l,n => if n = k then x else YS l n
def HC (l : List Nat) : List Nat → List Nat
 | [] => l
 | x :: xs => if l.contains x then HC l xs else HC (x :: l) xs
def LD (ops : Array Oper) : List Nat → List (Nat × List Nat) → List (Nat × List Nat)
 | [],acc => acc
 | j :: js,acc => LD ops js ((j,(Xp ops j).foldl (fun l d => HC l (YS acc d)) (Xp ops j)) :: acc)
def isP (o : Oper) : Bool :=
 match o.op with
 | .move _ => true
 | .assign _ => true
 | .pick .. => true
 | .build .. => true
 | .buildSlice .. => true
 | .load .. => true
 | .nilCheck _ => true
 | .binOp .. => true
 | .unOp .. => true
 | .convert s d _ => UE s d || Oj s d
 | .makeFunc .. => true
 | .slice .. => true
 | .fieldAddr .. => true
 | .field .. => true
 | .indexAddr .. => true
 | .index .. => true
 | .extract .. => true
 | .makeInterface .. => true
 | .typeAssert .. => true
 | .lookup .. => true
 | .entry _ => true
 | .call c => (match c.callee with
  | .builtin .len => true
  | .builtin .min => true
  | .builtin .max => true
  | _ => false)
 | _ => false
def ZM (o : Oper) : Bool :=
 match o.op with
 | .load .. => true
 | .convert s d _ => !UE s d
 | .lookup .. => true
 | .entry _ => true
 | .call _ => true
 | _ => false
def Pe (o : Oper) : Bool :=
 match o.op with
 | .load .. => true
 | _ => false
def SD (locs : List Nat) (o : Oper) : Bool :=
 (match o.op with
 | .alloc _ => true
 | .box .. => true
 | _ => false) && (match o.dst with
  | some d => locs.contains d
  | none => false) && o.guard.isNone
def Jj (x y : Task) : Bool :=
 isP y.o || match y.o.op with
 | .call c => (match c.callee with
  | .value _ => y.clean || x.strict || !ZM x.o
  | .builtin .append => x.strict || !ZM x.o
  | _ => false)
 | .makeSlice .. => true
 | .makeMap .. => true
 | .mapUpdate .. => x.strict || !ZM x.o
 | .store .. => !ZM x.o || (Pe x.o && (x.clean && y.strict || x.strict && y.clean))
 | _ => false
def PE (locs : List Nat) (o : Oper) : Bool :=
 (match o.op with
 | .alloc _ => true
 | .box .. => true
 | _ => false) && (match o.dst with
  | some d => !locs.contains d
  | none => false) && o.guard.isNone
def Of (y : Task) : Bool :=
 (match y.o.op with
 | .call c => (match c.callee with
  | .value _ => true
  | _ => false)
 | _ => false) && y.strict && y.o.guard.isNone
def comm (locs : List Nat) (ops : Array Oper) (x y : Task) : Bool := x.o.apart ops y.o && (isP x.o && (Jj x y || PE locs y.o) || SD locs x.o && (isP y.o || Of y))
def Nl (locs : List Nat) (ops : Array Oper) (T : List (Nat × List Nat)) (but : Option (Nat × Nat)) : List Task → Bool
 | [] => true
 | x :: ts => !(Xp ops x.i).contains x.i && (Xp ops x.i).all (fun d => decide (d < ops.size)) && ts.all (fun y => !(Xp ops x.i).contains y.i && y.i != x.i && ((YS T y.i).contains x.i || comm locs ops x y || but == some (x.i,y.i))) && Nl locs ops T but ts
def MG (locs : List Nat) (ops : Array Oper) (but : Option (Nat × Nat)) (l : List (Nat × Bool × Bool)) : Bool :=
 match Ym ops.toList l with
 | some ts => ts.length == ops.size && (List.range ops.size).all (fun k => ts.any fun t => t.i == k) && Nl locs ops (LD ops (l.map (·.1)) []) but ts
 | none => true
def SS (l l' : List (Nat × Bool × Bool)) : Option (Nat × Nat) :=
 match l,l' with
 | x :: l,y :: l' => if x.1 = y.1 then SS l l' else some (x.1,y.1)
 | _,_ => none
def vv : Option (Nat × Nat) → Option (Nat × Nat)
 | some (i,j) => some (j,i)
 | none => none
def Fq (locs : List Nat) (ops : Array Oper) (ij : Option (Nat × Nat)) (l l' : List (Nat × Bool × Bool)) : Bool :=
 match ij,Ym ops.toList l with
 | some (i,j),some ts => decide (i < ops.size) && decide (j < ops.size) && ts.all fun x => x.i == i || x.i == j || (YS (LD ops (l.map (·.1)) []) x.i).contains i || (YS (LD ops (l.map (·.1)) []) x.i).contains j || ((isP x.o || SD locs x.o) && l'.contains (x.i,x.clean,x.strict))
 | _,_ => false
def codeOk (an : Ann) (n : Nat) : Code → Bool
 | .region id ops draw => (ops.toList.all fun o => match o.dst with
  | some d => decide (d < n)
  | none => true) && (match draw with
   | false => true
   | true => match Uk an.draws id with
    | some l => (match Uk an.alts id with
     | none => MG an.locs ops none l
     | some l' => MG an.locs ops (SS l l') l && MG an.locs ops (vv (SS l l')) l' && Fq an.locs ops (SS l l') l l')
    | none => true)
 | .seq a b => codeOk an n a && codeOk an n b
 | .cond _ a b => codeOk an n a && codeOk an n b
 | .block _ a => codeOk an n a
 | .loop a => codeOk an n a
 | .scope a => codeOk an n a
 | _ => true
def VJ (P : Program) (ann : FuncId → Ann) : Bool :=
 P.follows .mixedOrders && (List.range P.funcs.size).all fun f => match P.funcs[f]? with
  | some fn => (match fn.body with
   | some c => codeOk (ann f) fn.ntmps c
   | none => true)
  | none => true
def M6 (P : Program) (fr : Fr) (σ : St) : ResultVar → Option PV
 | .tmp t => some (fr.env t).pv
 | .cell a t =>
  match PS P t,ZC P t with
  | some ag,some sz =>
   match fr.env a with
   | .loc s off => Q6 ag sz (fr.loc s) off
   | .v p => Q4 ag sz p σ
  | _,_ => none
def Qs (x : Option PV) (xs : Option (List PV)) : Option (List PV) :=
 match x with
 | none => none
 | some v => match xs with
  | none => none
  | some vs => some (v :: vs)
def Pk (P : Program) (fr : Fr) (σ : St) : List ResultVar → Option (List PV)
 | [] => some []
 | r :: rs => Qs (M6 P fr σ r) (Pk P fr σ rs)
def KV : Nat → List PV → Nat → EV
 | _,[],_ => .v .any
 | i,x :: xs,n => if n = i then .v x else KV (i + 1) xs n
def fr0 (args : List PV) : Fr := { env := KV 0 args,loc := fun _ => .any,dfr := [] }
def Dq (m : Option PV) : PV := match m with
 | none => .nilIface
 | some v => v
def Sh (A : Alg ρ) (P : Program) (ann : FuncId → Ann) (g : FuncId) (caps : List PV) (m : Option PV) (σ : St) (K : Option PV → St → ρ) : ρ :=
 match P.funcs[g]? with
 | some fn =>
  match fn.body with
  | some (.seq (.region _ ops false) rest) =>
   (match ops.toList with
   | o :: os =>
    if o.guard = none ∧ isRecover o.op = true ∧ fn.results.size = 0 then
     Ny A P (ann g).locs ops.toList ops.toList.length (Zw 1 os) ((fr0 caps).put o.dst (.v (Dq m))) σ
      (fun fr σ' => ZP A P { ann g with base := σ } rest fr σ' fun o fr σ => match fr.dfr with
       | [] => (match o with
        | .normal => K none σ
        | .ret => K none σ
        | .pan v => (match m with
         | none => K (some v) σ
         | some _ => A.fail)
        | .exit _ => A.fail)
       | _ => A.fail)
      (fun _ _ _ => A.fail)
    else A.fail
   | [] => A.fail)
  | _ => A.fail
 | none => A.fail
where
 isRecover : Op → Bool
  | .call c => (match c.callee with
   | .builtin .recover => true
   | _ => false)
  | _ => false
def SW (A : Alg ρ) (P : Program) (ann : FuncId → Ann) (σ₀ : St) (R : Res → St → ρ) (fn : Func) (fr : Fr) : List (FuncId × List PV) → Option PV → St → ρ
 | [],none,σ' => Qg A.fail (Pk P fr σ' fn.results.toList) fun vs => A.weak σ₀ (YB vs) σ' fun v σ => R (.ret v) σ
 | [],some v,σ' => R (.pan v) σ'
 | d :: ds,m,σ' => Sh A P ann d.1 d.2 m σ' fun m σ => SW A P ann σ₀ R fn fr ds m σ
def Qn (A : Alg ρ) (P : Program) (ann : FuncId → Ann) (f : FuncId) (args : List PV) (σ : St) (R : Res → St → ρ) : ρ :=
 match (ann f).ext with
 | some g => Qg A.fail (g args σ) fun r => R (.ret r.1) r.2
 | none =>
  match P.funcs[f]? with
  | some fn =>
   match fn.body with
   | some c => ZP A P { ann f with base := σ } c (fr0 args) σ (fun o fr σ' =>
    match o with
    | .normal => SW A P ann σ R fn fr fr.dfr none σ'
    | .ret => SW A P ann σ R fn fr fr.dfr none σ'
    | .pan v => SW A P ann σ R fn fr fr.dfr (some v) σ'
    | .exit _ => A.fail)
   | none => A.fail
  | none => A.fail
end
inductive XR (n : Nat) : PV → Prop where
 | any : XR n .any
 | bool (b) : XR n (.bool b)
 | int (k i) : XR n (.int k i)
 | str (l) : XR n (.str l)
 | nilptr : XR n .nilptr
 | ptr (b g i o) : b < n → XR n (.ptr b g i o)
 | eptr (e o) : XR n e → XR n (.eptr e o)
 | list (k xs) : (∀ (i : Nat) (x : PV),xs[i]? = some x → XR n x) → XR n (.list k xs)
 | sref (b g z o l) : b < n → XR n (.sref b g z o l)
 | nilmap : XR n .nilmap
 | mref (b) : b < n → XR n (.mref b)
 | func (f k c) : (∀ (i : Nat) (x : PV),c[i]? = some x → XR n x) → XR n (.func f k c)
 | nilfunc : XR n .nilfunc
 | iface (t v) : XR n v → XR n (.iface t v)
 | nilIface : XR n .nilIface
 | agg (cs) : (∀ (i : Nat) (x : PV),cs[i]? = some x → XR n x) → XR n (.agg cs)
 | tuple (cs) : (∀ (i : Nat) (x : PV),cs[i]? = some x → XR n x) → XR n (.tuple cs)
def Gx (n : Nat) : Blk → Prop
 | .arr _ _ xs => ∀ (i : Nat) (x : PV),xs[i]? = some x → XR n x
 | .map _ es => ∀ (i : Nat) (e : PV × PV),es[i]? = some e → XR n e.1 ∧ XR n e.2
 | .iter m _ _ => ∀ k,m = some k → k.1 < n
 | .dead => True
inductive Frz (σ : St) (n : Nat) : PV → PV → Prop where
 | base (v) : XR n v → Frz σ n v v
 | sref (b g z o l g' z' xs ys) : σ[b]? = some (.arr g' z' xs) → g = g' → n ≤ b → ys.length = l → o + l ≤ xs.length →
   (∀ (i : Nat) (x y : PV),i < l → xs[o + i]? = some x → ys[i]? = some y → Frz σ n x y) → Frz σ n (.sref b g z o l) (.list .part ys)
 | list (k xs ys) : ys.length = xs.length → (∀ (i : Nat) (x y : PV),xs[i]? = some x → ys[i]? = some y → Frz σ n x y) → Frz σ n (.list k xs) (.list k ys)
 | agg (xs ys) : ys.length = xs.length → (∀ (i : Nat) (x y : PV),xs[i]? = some x → ys[i]? = some y → Frz σ n x y) → Frz σ n (.agg xs) (.agg ys)
 | tuple (xs ys) : ys.length = xs.length → (∀ (i : Nat) (x y : PV),xs[i]? = some x → ys[i]? = some y → Frz σ n x y) → Frz σ n (.tuple xs) (.tuple ys)
inductive YX (D : Nat → Prop) : PV → Prop where
 | any : YX D .any
 | bool (b) : YX D (.bool b)
 | int (k i) : YX D (.int k i)
 | str (l) : YX D (.str l)
 | nilptr : YX D .nilptr
 | ptr (b g i o) : ¬ D b → YX D (.ptr b g i o)
 | eptr (e o) : YX D e → YX D (.eptr e o)
 | list (k xs) : (∀ (i : Nat) (x : PV),xs[i]? = some x → YX D x) → YX D (.list k xs)
 | sref (b g z o l) : ¬ D b → YX D (.sref b g z o l)
 | nilmap : YX D .nilmap
 | mref (b) : ¬ D b → YX D (.mref b)
 | func (f k c) : (∀ (i : Nat) (x : PV),c[i]? = some x → YX D x) → YX D (.func f k c)
 | nilfunc : YX D .nilfunc
 | iface (t v) : YX D v → YX D (.iface t v)
 | nilIface : YX D .nilIface
 | agg (cs) : (∀ (i : Nat) (x : PV),cs[i]? = some x → YX D x) → YX D (.agg cs)
 | tuple (cs) : (∀ (i : Nat) (x : PV),cs[i]? = some x → YX D x) → YX D (.tuple cs)
inductive VE (σ : St) (D : Nat → Prop) : PV → PV → Prop where
 | gone (v) : VE σ D v .any
 | base (v) : YX D v → VE σ D v v
 | sref (b g z o l g' z' xs ys) : σ[b]? = some (.arr g' z' xs) → g = g' → D b → ys.length = l → o + l ≤ xs.length →
   (∀ (i : Nat) (x y : PV),i < l → xs[o + i]? = some x → ys[i]? = some y → VE σ D x y) → VE σ D (.sref b g z o l) (.list .part ys)
 | ptr (b g i off z xs x y) : σ[b]? = some (.arr g z xs) → D b → xs[i]? = some x → VE σ D x y → VE σ D (.ptr b g i off) (.eptr y off)
 | list (k xs ys) : ys.length = xs.length → (∀ (i : Nat) (x y : PV),xs[i]? = some x → ys[i]? = some y → VE σ D x y) → VE σ D (.list k xs) (.list k ys)
 | func (f k xs ys) : ys.length = xs.length → (∀ (i : Nat) (x y : PV),xs[i]? = some x → ys[i]? = some y → VE σ D x y) → VE σ D (.func f k xs) (.func f k ys)
 | iface (t x y) : VE σ D x y → VE σ D (.iface t x) (.iface t y)
 | agg (xs ys) : ys.length = xs.length → (∀ (i : Nat) (x y : PV),xs[i]? = some x → ys[i]? = some y → VE σ D x y) → VE σ D (.agg xs) (.agg ys)
 | tuple (xs ys) : ys.length = xs.length → (∀ (i : Nat) (x y : PV),xs[i]? = some x → ys[i]? = some y → VE σ D x y) → VE σ D (.tuple xs) (.tuple ys)
def A7 (σ : St) (D : Nat → Prop) (k k' : Blk) : Prop :=
 k' = .dead ∨ match k with
 | .arr g z xs => ∃ ys,k' = .arr g z ys ∧ ys.length = xs.length ∧ ∀ (i : Nat) (x y : PV),xs[i]? = some x → ys[i]? = some y → VE σ D x y
 | .map v es => ∃ es',k' = .map v es' ∧ es'.length = es.length ∧ ∀ (i : Nat) (e e' : PV × PV),es[i]? = some e → es'[i]? = some e' → VE σ D e.1 e'.1 ∧ VE σ D e.2 e'.2
 | .iter m l r => k' = .iter m l r ∧ ∀ k,m = some k → ¬ D k.1
 | .dead => False
structure I0 (σ₀ : St) (D : Nat → Prop) (σ σ' : St) : Prop where
 low : ∀ b,D b → σ₀.length ≤ b
 les : σ'.length ≤ σ.length
 out : ∀ b,σ'.length ≤ b → b < σ.length → D b
 blk : ∀ (b : Nat) (k' : Blk),σ'[b]? = some k' → k' = .dead ∨ ¬ D b ∧ ∃ k,σ[b]? = some k ∧ (A7 σ D k k' ∨ k' = k ∧ σ₀[b]? = some k)
def JE (σ₀ : St) (x : Nat → PV) (σ : St) (x' : Nat → PV) (σ' : St) : Prop :=
 ∃ D,I0 σ₀ D σ σ' ∧ ∀ t,VE σ D (x t) (x' t)
inductive Ig (σ₀ : St) (v : PV) (σ' : St) : PV → St → Prop where
 | keep : Ig σ₀ v σ' v σ'
 | clean (g : List Blk) (v' : PV) : σ' = σ₀ ++ g → Frz σ' σ₀.length v v' → Ig σ₀ v σ' v' σ₀
 | drop (σ₁ g : List Blk) (v' : PV) : σ' = σ₁ ++ g → σ₀.length ≤ σ₁.length → (∀ (i : Nat) (b : Blk),σ₁[i]? = some b → Gx σ₁.length b) → Frz σ' σ₁.length v v' → Ig σ₀ v σ' v' σ₁
 | kill (D : Nat → Prop) (v' : PV) (σ'' : St) : I0 σ₀ D σ' σ'' → VE σ' D v v' → Ig σ₀ v σ' v' σ''
def Lfp (σ₀ : St) (F : ((Nat → PV) → St → Prop) → (Nat → PV) → St → Prop) (x : Nat → PV) (σ : St) : Prop :=
 ∀ Φ : (Nat → PV) → St → Prop,(∀ x σ,F Φ x σ → Φ x σ) → (∀ x σ x' σ',JE σ₀ x σ x' σ' → Φ x' σ' → Φ x σ) → Φ x σ
def X6 (σ₀ : St) (A : ((Nat → PV) → St → Prop) → Prop) (B : (Nat → PV) → St → Prop) : Prop :=
 ∃ J : (Nat → PV) → St → Prop,(∀ x σ,J x σ → B x σ ∨ ∃ x' σ',JE σ₀ x σ x' σ' ∧ B x' σ') ∧ A J
abbrev Q8 := FuncId → List PV → St → (Res → St → Prop) → Prop
def Qq (call : Q8) : Alg Prop where
 fail := False
 call := call
 same σ σ' p := σ' = σ ∧ p
 all l K := ∀ p ∈ l,K p.1 p.2
 loop := Lfp
 cut := X6
 weak σ₀ v σ' K := ∃ v' σ'',Ig σ₀ v σ' v' σ'' ∧ K v' σ''
 both p q := p ∧ q
def VS (P : Program) (ann : FuncId → Ann) : Q8 := fun f args σ R =>
 ∀ Φ : Q8,(∀ f args σ R,Qn (Qq Φ) P ann f args σ R → Φ f args σ R) → Φ f args σ R
def Q3 (c : PV) (a b : Prop) : Prop :=
 match c with
 | .bool true => a
 | .bool false => b
 | _ => False
def XE (o : Option (PV × St)) (K : PV → St → Prop) : Prop := Qg False o fun r => K r.1 r.2
def Kf (σ : St) (K : PV → St → Prop) : Prop := K (.mref σ.length) (σ ++ [.map 0 []])
def Pf (sz : Nat) (z : PV) (σ : St) (K : PV → St → Prop) : Prop := K (.ptr σ.length 0 0 0) (σ ++ [.arr 0 sz [z]])
def XG (σ₀ : St) (v : PV) (σ' : St) (K : PV → St → Prop) : Prop := ∃ v' σ'',Ig σ₀ v σ' v' σ'' ∧ K v' σ''
def Q0 (W : Q8) (f : FuncId) (args : List PV) (σ : St) (K : PV → St → Prop) (X : PV → St → Prop) : Prop :=
 W f args σ fun r σ' => match r with
  | .ret v => K v σ'
  | .pan v => X v σ'
def IN (W : Q8) (f : FuncId) (args : List PV) (σ : St) (K : PV → St → Prop) : Prop :=
 W f args σ fun r σ' => σ' = σ ∧ match r with
  | .ret v => K v σ
  | .pan v => False
def Jm (x : PV) (K : PV → Prop) : Prop :=
 match x with
 | .iface t v => K (.iface t v)
 | _ => False
def QC (l : List (Nat × PV)) (K : (Nat → PV) → Prop) : Prop := M8 l fun l => K (Qz l)
theorem EH (l : List (Nat × PV)) (K : (Nat → PV) → Prop) : QC l K = K (Qz l) := by rw [QC,SF]
def xS (x : PV) (K : List UInt8 → Prop) : Prop :=
 match x with
 | .str l => K l
 | _ => False
end Go.Abs
namespace Go.Abs
structure Yo {ρ ρ' : Type} (r : ρ → ρ' → Prop) (A : Alg ρ) (B : Alg ρ') : Prop where
 fail : ∀ q,r A.fail q
 call : ∀ {f args σ R R'},(∀ x σ,r (R x σ) (R' x σ)) → r (A.call f args σ R) (B.call f args σ R')
 same : ∀ {σ σ' p q},r p q → r (A.same σ σ' p) (B.same σ σ' q)
 loop : ∀ {n F F' x σ},(∀ Φ Φ',(∀ x σ,r (Φ x σ) (Φ' x σ)) → ∀ x σ,r (F Φ x σ) (F' Φ' x σ)) → r (A.loop n F x σ) (B.loop n F' x σ)
 all : ∀ {l K K'},(∀ v σ,r (K v σ) (K' v σ)) → r (A.all l K) (B.all l K')
 cut : ∀ {n a a' b b'},(∀ J J',(∀ x σ,r (J x σ) (J' x σ)) → r (a J) (a' J')) → (∀ x σ,r (b x σ) (b' x σ)) → r (A.cut n a b) (B.cut n a' b')
 weak : ∀ {σ₀ v σ' K K'},(∀ v σ,r (K v σ) (K' v σ)) → r (A.weak σ₀ v σ' K) (B.weak σ₀ v σ' K')
 both : ∀ {p p' q q'},r p p' → r q q' → r (A.both p q) (B.both p' q')
section
variable {ρ ρ' : Type} {r : ρ → ρ' → Prop} {A : Alg ρ} {B : Alg ρ'} {P : Program}
theorem UZ (h : Yo r A B) {α : Type} {o : Option α} {K : α → ρ} {K' : α → ρ'} (hK : ∀ a,r (K a) (K' a)) : r (Qg A.fail o K) (Qg B.fail o K') := by
 cases o with
 | none => exact h.fail _
 | some a => exact hK a
theorem V8 (h : Yo r A B) {c : Prop} [Decidable c] {a : ρ} {b : ρ} {a' b' : ρ'} (ha : c → r a a') (hb : ¬ c → r b b') : r (if c then a else b) (if c then a' else b') := by
 split
 ·exact ha ‹_›
 ·exact hb ‹_›
theorem IB (h : Yo r A B) {s : Bool} {X : PV → St → ρ} {X' : PV → St → ρ'} (hX : ∀ v σ,r (X v σ) (X' v σ)) : ∀ v σ,r (Kg A s X v σ) (Kg B s X' v σ) := by
 cases s with
 | true => exact fun v σ => h.fail _
 | false => exact hX
theorem Hr (h : Yo r A B) {clean : Bool} {f : PV} {args : List PV} {σ : St} {K X : PV → St → ρ} {K' X' : PV → St → ρ'} (hK : ∀ e σ,r (K e σ) (K' e σ)) (hX : ∀ v σ,r (X v σ) (X' v σ)) :
  r (Zc A P clean f args σ K X) (Zc B P clean f args σ K' X') := by
 unfold Zc
 cases f with
 | func f k caps =>
  simp only
  cases P.funcs[f]? with
  | none => exact h.fail _
  | some fn =>
   simp only
   cases fn.body with
   | none => exact UZ h fun a => hK _ _
   | some c =>
    simp only
    unfold Zc.callK
    refine h.call fun x σ' => ?_
    cases clean with
    | true =>
     simp only
     refine h.same ?_
     cases x with
     | ret v => exact hK _ _
     | pan v => exact h.fail _
    | false =>
     cases x with
     | ret v => exact hK _ _
     | pan v => exact hX _ _
 | _ => exact h.fail _
theorem Ko (h : Yo r A B) {c s : Bool} {o : Oper} {fr : Fr} {σ : St} {K : EV → St → ρ} {X : PV → St → ρ} {K' : EV → St → ρ'} {X' : PV → St → ρ'} (hK : ∀ e σ,r (K e σ) (K' e σ)) (hX : ∀ v σ,r (X v σ) (X' v σ)) :
  r (opV A P c s o fr σ K X) (opV B P c s o fr σ K' X') := by
 obtain ⟨dst,op,type,pos,after,guard⟩ := o
 have bb {α : Type} {o : Option α} {K : α → ρ} {K' : α → ρ'} (hK : ∀ a,r (K a) (K' a)) : r (Qg A.fail o K) (Qg B.fail o K') := UZ h hK
 cases op with
 | call q =>
  obtain ⟨callee,args,argTypes⟩ := q
  cases callee with
  | value f => exact Hr h (fun e σ => hK _ _) (IB h hX)
  | invoke _ _ => exact h.fail _
  | builtin b =>
   cases b with
   | len =>
    simp only [opV]
    split
    ·exact bb fun k => bb fun x => hK _ _
    ·exact h.fail _
   | append =>
    simp only [opV]
    split
    ·exact bb fun e => bb fun sz => bb fun by_ => bb fun z => bb fun _ => V8 h (fun _ => bb fun r => hK _ _) (fun _ => V8 h (fun _ => bb fun r => hK _ _) (fun _ => h.fail _))
    ·exact h.fail _
   | min =>
    simp only [opV]
    split
    ·exact bb fun k => hK _ _
    ·exact h.fail _
   | max =>
    simp only [opV]
    split
    ·exact bb fun k => hK _ _
    ·exact h.fail _
   | cap =>
    simp only [opV]
    split
    ·exact bb fun _ => bb fun _ => hK _ _
    ·exact h.fail _
   | delete =>
    simp only [opV]
    split
    ·exact bb fun _ => bb fun _ => bb fun _ => hK _ _
    ·exact h.fail _
   | _ => exact h.fail _
 | _ =>
  simp only [opV]
  repeat first
   | exact hK _ _
   | exact hX _ _
   | exact h.fail _
   | exact h.all fun v σ => hK _ _
   | refine bb fun _ => ?_
   | refine V8 h (fun _ => ?_) (fun _ => ?_)
   | split
theorem IJ (h : Yo r A B) {locs : List Nat} {c s : Bool} {o : Oper} {fr : Fr} {σ : St} {K : Fr → St → ρ} {X : PV → Fr → St → ρ} {K' : Fr → St → ρ'} {X' : PV → Fr → St → ρ'} (hK : ∀ e σ,r (K e σ) (K' e σ)) (hX : ∀ v fr σ,r (X v fr σ) (X' v fr σ)) :
  r (opC A P locs c s o fr σ K X) (opC B P locs c s o fr σ K' X') := by
 obtain ⟨dst,op,type,pos,after,guard⟩ := o
 have bb {α : Type} {o : Option α} {K : α → ρ} {K' : α → ρ'} (hK : ∀ a,r (K a) (K' a)) : r (Qg A.fail o K) (Qg B.fail o K') := UZ h hK
 have other : r (opV A P c s ⟨dst,op,type,pos,after,guard⟩ fr σ (fun e σ => K (fr.put dst e) σ) (fun v σ => X v fr σ)) (opV B P c s ⟨dst,op,type,pos,after,guard⟩ fr σ (fun e σ => K' (fr.put dst e) σ) (fun v σ => X' v fr σ)) :=
  Ko h (fun e σ => hK _ _) (fun v σ => hX _ _ _)
 cases op with
 | alloc t =>
  simp only [opC]
  repeat first
   | exact hK _ _
   | exact h.fail _
   | refine bb fun _ => ?_
   | refine V8 h (fun _ => ?_) (fun _ => ?_)
   | split
 | box t x =>
  simp only [opC]
  repeat first
   | exact hK _ _
   | exact h.fail _
   | refine bb fun _ => ?_
   | refine V8 h (fun _ => ?_) (fun _ => ?_)
   | split
 | store t a x =>
  simp only [opC]
  repeat first
   | exact hK _ _
   | exact h.fail _
   | refine bb fun _ => ?_
   | refine V8 h (fun _ => ?_) (fun _ => ?_)
   | split
 | defer q =>
  simp only [opC]
  repeat first
   | exact hK _ _
   | exact h.fail _
   | split
 | _ => exact other
theorem JT (h : Yo r A B) : ∀ (ts : List Task) {fr : Fr} {σ : St} {K : Fr → St → ρ} {X : PV → St → ρ} {K' : Fr → St → ρ'} {X' : PV → St → ρ'},(∀ e σ,r (K e σ) (K' e σ)) → (∀ v σ,r (X v σ) (X' v σ)) →
  r (Gb A P ts fr σ K X) (Gb B P ts fr σ K' X')
 | [],_,_,_,_,_,_,hK,hX => hK _ _
 | t :: ts,_,_,_,_,_,_,hK,hX => Ko h (fun e σ => JT h ts hK hX) hX
theorem T3 (h : Yo r A B) {locs : List Nat} {all : List Oper} : ∀ (n : Nat) (ts : List Task) {fr : Fr} {σ : St} {K : Fr → St → ρ} {X : PV → Fr → St → ρ} {K' : Fr → St → ρ'} {X' : PV → Fr → St → ρ'},(∀ e σ,r (K e σ) (K' e σ)) → (∀ v fr σ,r (X v fr σ) (X' v fr σ)) →
  r (Ny A P locs all n ts fr σ K X) (Ny B P locs all n ts fr σ K' X')
 | 0,[],_,_,_,_,_,_,hK,hX => hK _ _
 | 0,_ :: _,_,_,_,_,_,_,hK,hX => h.fail _
 | n + 1,[],_,_,_,_,_,_,hK,hX => hK _ _
 | n + 1,t :: ts,fr,_,_,_,_,_,hK,hX => by
  simp only [Ny]
  cases t.o.guard with
  | none => exact IJ h (fun e σ => T3 h n ts hK hX) hX
  | some g =>
   simp only
   cases all[g.1]? with
   | none => exact h.fail _
   | some oj =>
    simp only
    cases oj.dst with
    | none => exact h.fail _
    | some d =>
     simp only
     refine V8 h (fun _ => ?_) (fun _ => h.fail _)
     unfold XB
     cases gOk (fr.env d).pv g.2 with
     | none => exact h.fail _
     | some b =>
      cases b with
      | true => exact JT h _ (fun e σ => T3 h n _ hK hX) (fun v σ => hX _ _ _)
      | false => exact T3 h n _ hK hX
theorem Pj (h : Yo r A B) {kp : List Nat × List Nat} {fr : Fr} {K : (Nat → PV) → ρ} {K' : (Nat → PV) → ρ'} (hK : ∀ x,r (K x) (K' x)) : r (TW A kp fr K) (TW B kp fr K') := by
 unfold TW
 cases fr.dfr with
 | cons => exact h.fail _
 | nil =>
  simp only [SF]
  generalize Qz (Hb kp.1 kp.2 fr) = x
  have : ∀ l : List Nat,r (Vk A fr (K x) l) (Vk B fr (K' x) l) := by
   intro l
   induction l with
   | nil => exact hK _
   | cons s l ih =>
    simp only [Vk]
    split
    ·exact V8 h (fun _ => ih) (fun _ => h.fail _)
    ·exact h.fail _
  exact this _
theorem Hh (h : Yo r A B) {an : Ann} {id : Nat} {ops : List Oper} {run : List Task → ρ} {run' : List Task → ρ'} (hr : ∀ ts,r (run ts) (run' ts)) : r (Jl A an id ops run) (Jl B an id ops run') := by
 unfold Jl
 cases Uk an.draws id with
 | none => exact h.fail _
 | some l =>
  simp only
  cases Ym ops l with
  | none => exact h.fail _
  | some ts =>
   simp only
   cases Uk an.alts id with
   | none => exact hr _
   | some l' =>
    simp only
    cases Ym ops l' with
    | none => exact h.fail _
    | some ts' => exact h.both (hr _) (hr _)
theorem ZW (h : Yo r A B) {an : Ann} : ∀ (c : Code) {fr : Fr} {σ : St} {Q : Out → Fr → St → ρ} {Q' : Out → Fr → St → ρ'},(∀ o fr σ,r (Q o fr σ) (Q' o fr σ)) →
  r (ZP A P an c fr σ Q) (ZP B P an c fr σ Q')
 | .skip,_,_,_,_,hQ => hQ _ _ _
 | .label _,_,_,_,_,hQ => hQ _ _ _
 | .exit _,_,_,_,_,hQ => hQ _ _ _
 | .ret,_,_,_,_,hQ => hQ _ _ _
 | .region id ops draw,_,_,_,_,hQ => by
  simp only [ZP]
  cases draw with
  | false => exact T3 h _ _ (fun _ _ => hQ _ _ _) (fun _ _ _ => hQ _ _ _)
  | true => exact Hh h fun ts => T3 h _ _ (fun _ _ => hQ _ _ _) (fun _ _ _ => hQ _ _ _)
 | .seq x y,_,_,_,_,hQ => by
  simp only [ZP]
  refine V8 h (fun _ => ?_) (fun _ => ?_)
  ·cases an.at_ (Yv y) with
   | none => exact h.fail _
   | some kp =>
    simp only
    refine h.cut (fun J J' hJ => ZW h x fun o fr σ => ?_) (fun x σ => ZW h y hQ)
    cases o with
    | normal => exact Pj h fun x => hJ _ _
    | _ => exact hQ _ _ _
  ·refine ZW h x fun o fr σ => ?_
   cases o with
   | normal => exact ZW h y hQ
   | _ => exact hQ _ _ _
 | .cond c x y,fr,_,_,_,hQ => by
  simp only [ZP]
  cases evP fr c with
  | bool b =>
   cases b with
   | true => exact ZW h x hQ
   | false => exact ZW h y hQ
  | _ => exact h.fail _
 | .block id x,_,_,_,_,hQ => by
  simp only [ZP]
  refine ZW h x fun o fr σ => ?_
  cases o with
  | exit id' => exact V8 h (fun _ => hQ _ _ _) (fun _ => hQ _ _ _)
  | _ => exact hQ _ _ _
 | .loop x,_,_,_,_,hQ => by
  simp only [ZP]
  cases an.at_ (Yv x) with
  | none => exact h.fail _
  | some kp =>
   simp only
   refine Pj h fun y => h.loop fun Φ Φ' hΦ y σ => ZW h x fun o fr σ => ?_
   cases o with
   | normal => exact Pj h fun x => hΦ _ _
   | _ => exact hQ _ _ _
 | .rangeFunc _ _ _ _,_,_,_,_,hQ => h.fail _
 | .scope _,_,_,_,_,hQ => h.fail _
 | .goto _,_,_,_,_,hQ => h.fail _
 | .refuse _,_,_,_,_,hQ => h.fail _
theorem Ij (h : Yo r A B) {ann : FuncId → Ann} {g : FuncId} {caps : List PV} {m : Option PV} {σ : St} {K : Option PV → St → ρ} {K' : Option PV → St → ρ'} (hK : ∀ m σ,r (K m σ) (K' m σ)) :
  r (Sh A P ann g caps m σ K) (Sh B P ann g caps m σ K') := by
 unfold Sh
 split
 ·split
  ·split
   ·refine V8 h (fun _ => ?_) (fun _ => h.fail _)
    refine T3 h _ _ (fun fr σ => ZW h _ fun o fr σ => ?_) (fun _ _ _ => h.fail _)
    split
    ·cases o with
     | normal => exact hK _ _
     | ret => exact hK _ _
     | exit _ => exact h.fail _
     | pan v =>
      simp only
      split
      ·exact hK _ _
      ·exact h.fail _
    ·exact h.fail _
   ·exact h.fail _
  ·exact h.fail _
 ·exact h.fail _
theorem Ti (h : Yo r A B) {ann : FuncId → Ann} {σ₀ : St} {R : Res → St → ρ} {R' : Res → St → ρ'} (hR : ∀ x σ,r (R x σ) (R' x σ)) {fn : Func} {fr : Fr} : ∀ (l : List (FuncId × List PV)) (m : Option PV) (σ' : St),
  r (SW A P ann σ₀ R fn fr l m σ') (SW B P ann σ₀ R' fn fr l m σ')
 | [],none,σ' => UZ h fun vs => h.weak fun v σ => hR _ _
 | [],some v,σ' => hR _ _
 | d :: ds,m,σ' => Ij h fun m σ => Ti h hR ds m σ
theorem Su (h : Yo r A B) {ann : FuncId → Ann} {f : FuncId} {args : List PV} {σ : St} {R : Res → St → ρ} {R' : Res → St → ρ'} (hR : ∀ x σ,r (R x σ) (R' x σ)) :
  r (Qn A P ann f args σ R) (Qn B P ann f args σ R') := by
 unfold Qn
 cases (ann f).ext with
 | some g => exact UZ h fun x => hR _ _
 | none =>
  simp only
  cases P.funcs[f]? with
  | none => exact h.fail _
  | some fn =>
   simp only
   cases fn.body with
   | none => exact h.fail _
   | some c =>
    simp only
    refine ZW h c fun o fr σ' => ?_
    cases o with
    | normal => exact Ti h hR _ _ _
    | ret => exact Ti h hR _ _ _
    | pan v => exact Ti h hR _ _ _
    | exit _ => exact h.fail _
end
theorem Sz {call call' : Q8} (hc : ∀ {f args σ R R'},(∀ x σ,R x σ → R' x σ) → call f args σ R → call' f args σ R') : Yo (fun p q : Prop => p → q) (Qq call) (Qq call') where
 fail q h := h.elim
 call hR h := hc hR h
 same hpq h := ⟨h.1,hpq h.2⟩
 loop := by
  intro n F F' x σ hF h Φ' hΦ'
  exact h Φ' fun x σ hx => hΦ' x σ (hF Φ' Φ' (fun _ _ h => h) x σ hx)
 all := fun hK h p hp => hK _ _ (h p hp)
 cut := by
  rintro n a a' b b' ha hb ⟨J,h1,h2⟩
  exact ⟨J,fun x σ hx => (h1 x σ hx).imp (hb x σ) (fun ⟨x',σ',hw,h⟩ => ⟨x',σ',hw,hb x' σ' h⟩),ha J J (fun _ _ h => h) h2⟩
 weak := by
  rintro σ₀ v σ' K K' hK ⟨v',σ'',h1,h2⟩
  exact ⟨v',σ'',h1,hK _ _ h2⟩
 both := fun hp hq h => ⟨hp h.1,hq h.2⟩
theorem Iy {P : Program} {ann : FuncId → Ann} {f : FuncId} {args : List PV} {σ : St} {R R' : Res → St → Prop} (hR : ∀ x σ,R x σ → R' x σ) (h : VS P ann f args σ R) : VS P ann f args σ R' := by
 have := h (fun f args σ R => ∀ R' : Res → St → Prop,(∀ x σ,R x σ → R' x σ) → VS P ann f args σ R') (by
  intro f args σ R hb R' hR Φ hΦ
  refine hΦ _ _ _ _ ?_
  refine Su (Sz ?_) hR hb
  intro f args σ R R' hR hc
  exact hc R' hR Φ hΦ)
 exact this R' hR
theorem Xe {P : Program} {ann : FuncId → Ann} {f : FuncId} {args : List PV} {σ : St} {R : Res → St → Prop} (h : Qn (Qq (VS P ann)) P ann f args σ R) : VS P ann f args σ R := by
 intro Φ hΦ
 refine hΦ _ _ _ _ (Su (Sz ?_) (fun _ _ h => h) h)
 intro f args σ R R' hR hc
 exact Iy hR hc Φ hΦ
end Go.Abs

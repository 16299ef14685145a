import Derived.Test.YtgghfcchanilpaaGreatDoorPlB
set_option linter.unusedVariables false
set_option linter.unusedSimpArgs false
namespace Go.Abs
abbrev Sl (α : Type) := LK × List α
def pvSl {α : Type} (enc : α → PV) (l : Sl α) : PV := .list l.1 (l.2.map enc)
structure SlotS where
 kind : Int
 size : Int
 map : Int
 dims : Int
 flex : Bool
 deriving DecidableEq
structure RangeS where
 outer : Int
 fr : Int
 to : Int
 deriving DecidableEq
structure RoutS where
 sig : Int
 frame : Int
 fr : Int
 to : Int
 outer : Int
 within : Int
 level : Int
 needs : Int
 ranges : Sl RangeS
structure TransS where
 word : Str
 file : Bool
 map : Int
structure CodeS where
 maps : Sl (Sl SlotS)
 unions : Sl (Sl Int)
 sigs : Sl (Int × Int)
 routs : Sl RoutS
 insts : Sl InstS
 jumps : Sl (Sl Int)
 parts : Sl (Sl Int)
 texts : Sl Str
 trans : Sl TransS
 lines : Sl (Int × Int)
def pvI (n : Int) : PV := .int .i64 n
def pvSlot (s : SlotS) : PV := .agg [.int .i64 s.kind, .int .i64 s.size, .int .i64 s.map, .int .i64 s.dims, .bool s.flex]
def pvMap (m : Sl SlotS) : PV := .agg [pvSl pvSlot m]
def pvInts (l : Sl Int) : PV := pvSl pvI l
def pvSig (p : Int × Int) : PV := .agg [.int .i64 p.1, .int .i64 p.2]
def pvRange (r : RangeS) : PV := .agg [.int .i64 r.outer, .int .i64 r.fr, .int .i64 r.to]
def pvRout (r : RoutS) : PV := .agg [.int .i64 r.sig, .int .i64 r.frame, .int .i64 r.fr, .int .i64 r.to, .int .i64 r.outer, .int .i64 r.within, .int .i64 r.level, .int .i64 r.needs, pvSl pvRange r.ranges]
def pvTrans (t : TransS) : PV := .agg [.str t.word, .bool t.file, .int .i64 t.map]
def codeCells (c : CodeS) : List PV := [pvSl pvMap c.maps, pvSl pvInts c.unions, pvSl pvSig c.sigs, pvSl pvRout c.routs, pvSl pvInst c.insts, pvSl pvInts c.jumps, pvSl pvInts c.parts, pvSl PV.str c.texts, pvSl pvTrans c.trans, pvSl pvSig c.lines]
def pvCode (c : CodeS) : PV := .agg (codeCells c)
def pvChk (c : CodeS) (rows idents : Int) : PV := .agg (codeCells c ++ [.int .i64 rows, .int .i64 idents])
def len {α : Type} (l : Sl α) : Int := (l.2.length : Int)
def inS (n most : Int) : Bool := decide (n ≥ 0) && decide (n < most)
def atI {α : Type} (d : α) (l : Sl α) (i : Int) : α := l.2.getD i.toNat d
structure Okay (c : CodeS) : Prop where
 maps : c.maps.2.length ≤ 1048576
 slots : ∀ m ∈ c.maps.2, m.2.length ≤ 1048576
 unions : c.unions.2.length ≤ 1048576
 union : ∀ m ∈ c.unions.2, m.2.length ≤ 1048576
 sigs : c.sigs.2.length ≤ 1048576
 routs : c.routs.2.length ≤ 1048576
 ranges : ∀ r ∈ c.routs.2, r.ranges.2.length ≤ 1048576
 insts : c.insts.2.length ≤ 1048576
 jumps : c.jumps.2.length ≤ 1048576
 jump : ∀ m ∈ c.jumps.2, m.2.length ≤ 1048576
 parts : c.parts.2.length ≤ 1048576
 part : ∀ m ∈ c.parts.2, m.2.length ≤ 1048576
 texts : c.texts.2.length ≤ 1048576
 text : ∀ m ∈ c.texts.2, m.length ≤ 1048576
 trans : c.trans.2.length ≤ 1048576
 word : ∀ m ∈ c.trans.2, m.word.length ≤ 1048576
 lines : c.lines.2.length ≤ 1048576
def longL (l : Sl (Sl Int)) : Bool := l.2.any fun t => decide (len t > 4000)
def lensOver (c : CodeS) : Bool := [len c.insts, len c.maps, len c.unions, len c.sigs, len c.routs, len c.jumps, len c.parts, len c.texts, len c.trans, len c.lines].any fun n => decide (n > 16384)
def innerOver (c : CodeS) : Bool := (c.maps.2.any fun m => decide (len m > 1000)) || ((c.routs.2.any fun r => decide (len r.ranges > 4000)) || (c.texts.2.any fun s => decide ((s.length : Int) > 65536)))
def overB (c : CodeS) : Bool := lensOver c || (innerOver c || (longL c.unions || (longL c.jumps || longL c.parts)))
def slotN (c : CodeS) (k : Int) : Int := if k = 8 ∨ k = 9 then len c.maps else if k = 10 then len c.unions else if k = 11 then len c.sigs else 1
def sizedB (k : Int) : Bool := decide (k = 2) || (decide (k = 3) || decide (k = 4))
def slotB (c : CodeS) (s : SlotS) : Bool :=
 decide (s.kind ≥ 0) && (decide (s.kind < 12) && ((decide (s.size = 0) || (sizedB s.kind && (decide (s.size ≥ -1) && decide (s.size ≤ 1)))) &&
  (((decide (s.kind = 9) && (decide (s.dims ≥ 1) && decide (s.dims ≤ 3))) || (!decide (s.kind = 9) && (decide (s.dims = 0) && !s.flex))) && inS s.map (slotN c s.kind))))
def slotsBad (c : CodeS) : Bool := c.maps.2.any fun m => m.2.any fun s => !slotB c s
def unionsBad (c : CodeS) : Bool := c.unions.2.any fun u => u.2.any fun m => !inS m (len c.maps)
def sigsBad (c : CodeS) : Bool := c.sigs.2.any fun p => !inS p.1 (len c.maps) || !inS p.2 (len c.maps)
def unionsEmpty (c : CodeS) : Bool := c.unions.2.any fun u => decide (len u = 0)
def linksE (c : CodeS) : Int := if unionsBad c then 11 else if sigsBad c then 11 else if unionsEmpty c then 12 else 0
end Go.Abs
namespace Go.Abs
def InI (n : Int) : Prop := -9223372036854775808 ≤ n ∧ n ≤ 9223372036854775807
end Go.Abs

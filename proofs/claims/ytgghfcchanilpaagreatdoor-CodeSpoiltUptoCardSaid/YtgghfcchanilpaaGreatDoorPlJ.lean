import Derived.Test.YtgghfcchanilpaaGreatDoorPlC
set_option linter.unusedVariables false
set_option linter.unusedSimpArgs false
namespace Go.Abs
abbrev Sl (α : Type) := LK × List α
def pvSl {α : Type} (enc : α → PV) (l : Sl α) : PV := .list l.1 (l.2.map enc)
structure SlotS where
 kind : Int
 size : Int
 map : Int
 dims : Int
 flex : Bool
 deriving DecidableEq
structure RangeS where
 outer : Int
 fr : Int
 «to» : Int
 deriving DecidableEq
structure RoutS where
 sig : Int
 frame : Int
 fr : Int
 «to» : Int
 outer : Int
 within : Int
 level : Int
 needs : Int
 ranges : Sl RangeS
structure TransS where
 word : Str
 file : Bool
 map : Int
structure CodeS where
 maps : Sl (Sl SlotS)
 unions : Sl (Sl Int)
 sigs : Sl (Int × Int)
 routs : Sl RoutS
 insts : Sl InstS
 jumps : Sl (Sl Int)
 parts : Sl (Sl Int)
 texts : Sl Str
 trans : Sl TransS
 lines : Sl (Int × Int)
def pvI (n : Int) : PV := .int .i64 n
def pvSlot (s : SlotS) : PV := .agg [.int .i64 s.kind,.int .i64 s.size,.int .i64 s.map,.int .i64 s.dims,.bool s.flex]
def pvMap (m : Sl SlotS) : PV := .agg [pvSl pvSlot m]
def pvInts (l : Sl Int) : PV := pvSl pvI l
def pvSig (p : Int × Int) : PV := .agg [.int .i64 p.1,.int .i64 p.2]
def pvRange (r : RangeS) : PV := .agg [.int .i64 r.outer,.int .i64 r.fr,.int .i64 r.to]
def pvRout (r : RoutS) : PV := .agg [.int .i64 r.sig,.int .i64 r.frame,.int .i64 r.fr,.int .i64 r.to,.int .i64 r.outer,.int .i64 r.within,.int .i64 r.level,.int .i64 r.needs,pvSl pvRange r.ranges]
def pvTrans (t : TransS) : PV := .agg [.str t.word,.bool t.file,.int .i64 t.map]
def codeCells (c : CodeS) : List PV := [pvSl pvMap c.maps,pvSl pvInts c.unions,pvSl pvSig c.sigs,pvSl pvRout c.routs,pvSl pvInst c.insts,pvSl pvInts c.jumps,pvSl pvInts c.parts,pvSl PV.str c.texts,pvSl pvTrans c.trans,pvSl pvSig c.lines]
def pvCode (c : CodeS) : PV := .agg (codeCells c)
def pvChk (c : CodeS) (rows idents : Int) : PV := .agg (codeCells c ++ [.int .i64 rows,.int .i64 idents])
def len {α : Type} (l : Sl α) : Int := (l.2.length : Int)
def inS (n most : Int) : Bool := decide (n ≥ 0) && decide (n < most)
def atI {α : Type} (d : α) (l : Sl α) (i : Int) : α := l.2.getD i.toNat d
structure Okay (c : CodeS) : Prop where
 maps : c.maps.2.length ≤ 1048576
 slots : ∀ m ∈ c.maps.2,m.2.length ≤ 1048576
 unions : c.unions.2.length ≤ 1048576
 union : ∀ m ∈ c.unions.2,m.2.length ≤ 1048576
 sigs : c.sigs.2.length ≤ 1048576
 routs : c.routs.2.length ≤ 1048576
 ranges : ∀ r ∈ c.routs.2,r.ranges.2.length ≤ 1048576
 insts : c.insts.2.length ≤ 1048576
 jumps : c.jumps.2.length ≤ 1048576
 jump : ∀ m ∈ c.jumps.2,m.2.length ≤ 1048576
 parts : c.parts.2.length ≤ 1048576
 part : ∀ m ∈ c.parts.2,m.2.length ≤ 1048576
 texts : c.texts.2.length ≤ 1048576
 text : ∀ m ∈ c.texts.2,m.length ≤ 1048576
 trans : c.trans.2.length ≤ 1048576
 word : ∀ m ∈ c.trans.2,m.word.length ≤ 1048576
 lines : c.lines.2.length ≤ 1048576
def longL (l : Sl (Sl Int)) : Bool := l.2.any fun t => decide (len t > 4000)
def lensOver (c : CodeS) : Bool := [len c.insts,len c.maps,len c.unions,len c.sigs,len c.routs,len c.jumps,len c.parts,len c.texts,len c.trans,len c.lines].any fun n => decide (n > 16384)
def innerOver (c : CodeS) : Bool := (c.maps.2.any fun m => decide (len m > 1000)) || ((c.routs.2.any fun r => decide (len r.ranges > 4000)) || (c.texts.2.any fun s => decide ((s.length : Int) > 65536)))
def overB (c : CodeS) : Bool := lensOver c || (innerOver c || (longL c.unions || (longL c.jumps || longL c.parts)))
def slotN (c : CodeS) (k : Int) : Int := if k = 8 ∨ k = 9 then len c.maps else if k = 10 then len c.unions else if k = 11 then len c.sigs else 1
def sizedB (k : Int) : Bool := decide (k = 2) || (decide (k = 3) || decide (k = 4))
def slotB (c : CodeS) (s : SlotS) : Bool :=
 decide (s.kind ≥ 0) && (decide (s.kind < 12) && ((decide (s.size = 0) || (sizedB s.kind && (decide (s.size ≥ -1) && decide (s.size ≤ 1)))) &&
  (((decide (s.kind = 9) && (decide (s.dims ≥ 1) && decide (s.dims ≤ 3))) || (!decide (s.kind = 9) && (decide (s.dims = 0) && !s.flex))) && inS s.map (slotN c s.kind))))
def slotsBad (c : CodeS) : Bool := c.maps.2.any fun m => m.2.any fun s => !slotB c s
def unionsBad (c : CodeS) : Bool := c.unions.2.any fun u => u.2.any fun m => !inS m (len c.maps)
def sigsBad (c : CodeS) : Bool := c.sigs.2.any fun p => !inS p.1 (len c.maps) || !inS p.2 (len c.maps)
def unionsEmpty (c : CodeS) : Bool := c.unions.2.any fun u => decide (len u = 0)
def linksE (c : CodeS) : Int := if unionsBad c then 11 else if sigsBad c then 11 else if unionsEmpty c then 12 else 0
end Go.Abs
namespace Go.Abs
def lebF : Nat → Nat → Str
 | 0,u => [UInt8.ofNat u]
 | f + 1,u => if 128 ≤ u then UInt8.ofNat (u % 128 + 128) :: lebF f (u / 128) else [UInt8.ofNat u]
def zig (n : Int) : Nat := if n < 0 then (-2 * n - 1).toNat else (2 * n).toNat
def zag (u : Nat) : Int := if u % 2 = 1 then -((u / 2 : Nat) : Int) - 1 else ((u / 2 : Nat) : Int)
def numB (n : Int) : Str := lebF 9 (zig n)
theorem zig_lt {n : Int} (h0 : -9223372036854775808 ≤ n) (h1 : n ≤ 9223372036854775807) : zig n < 18446744073709551616 := by
 unfold zig
 split <;> omega
theorem lebF_len : ∀ (f u : Nat),1 ≤ (lebF f u).length ∧ (lebF f u).length ≤ f + 1
 | 0,u => by simp [lebF]
 | f + 1,u => by
  have := lebF_len f (u / 128)
  unfold lebF
  split
  ·simp only [List.length_cons]; omega
  ·simp
theorem numB_len (n : Int) : 1 ≤ (numB n).length ∧ (numB n).length ≤ 10 := lebF_len 9 (zig n)
def lebR : Nat → Nat → Nat → Str → Except Int (Nat × Str)
 | 0,_,_,_ => .error 2
 | f + 1,k,u,[] => .error 16
 | f + 1,k,u,c :: l =>
  if (k = 9 ∧ c.toNat > 1) ∨ (k > 0 ∧ c.toNat = 0) then .error 2
  else if c.toNat < 128 then .ok (u + c.toNat * 128 ^ k,l) else lebR f (k + 1) (u + (c.toNat - 128) * 128 ^ k) l
theorem byte_nat {n : Nat} (h : n < 256) : (UInt8.ofNat n).toNat = n := by
 rw [UInt8.toNat_ofNat',Nat.mod_eq_of_lt h]
abbrev Pa (α : Type) := Str → Except Int (α × Str)
def pRet {α : Type} (a : α) : Pa α := fun s => .ok (a,s)
def pBind {α β : Type} (p : Pa α) (f : α → Pa β) : Pa β := fun s => match p s with
 | .error e => .error e
 | .ok (a,l) => f a l
def pNum : Pa Int := fun s => match lebR 10 0 0 s with
 | .error e => .error e
 | .ok (u,l) => .ok (zag u,l)
def pLen : Pa Nat := pBind pNum fun n s => if n < 0 ∨ n > (s.length : Int) then .error 2 else .ok (n.toNat,s)
def pText : Pa Str := pBind pLen fun n s => .ok (s.take n,s.drop n)
def pBool : Pa Bool := pBind pNum fun n s => if n ≠ 0 ∧ n ≠ 1 then .error 2 else .ok (n == 1,s)
def pRep {α : Type} (p : Pa α) : Nat → Pa (List α)
 | 0 => pRet []
 | n + 1 => pBind p fun a => pBind (pRep p n) fun l => pRet (a :: l)
def pList {α : Type} (p : Pa α) : Pa (List α) := pBind pLen fun n => pRep p n
def InI (n : Int) : Prop := -9223372036854775808 ≤ n ∧ n ≤ 9223372036854775807
def textB (s : Str) : Str := numB s.length ++ s
def boolB (b : Bool) : Str := numB (if b then 1 else 0)
def listB {α : Type} (f : α → Str) (l : List α) : Str := numB l.length ++ l.flatMap f
end Go.Abs
namespace Go.Abs
def zRout : RoutS := ⟨0,0,0,0,0,0,0,0,(.nil,[])⟩
def rAt (c : CodeS) (i : Int) : RoutS := atI zRout c.routs i
def mAt (c : CodeS) (i : Int) : Sl SlotS := atI (.nil,[]) c.maps i
def sAt (c : CodeS) (i : Int) : Int × Int := atI (0,0) c.sigs i
def firstE (e : Nat → Int) : Nat → Int
 | 0 => 0
 | n + 1 => if firstE e n ≠ 0 then firstE e n else e n
theorem firstE_zero {e : Nat → Int} : ∀ {n : Nat},(∀ k,k < n → e k = 0) → firstE e n = 0
 | 0,_ => rfl
 | n + 1,h => by
  have h1 : firstE e n = 0 := firstE_zero fun k hk => h k (by omega)
  simp only [firstE,h1,ne_eq,not_true,if_false]
  exact h n (by omega)
theorem firstE_all {e : Nat → Int} : ∀ {n : Nat},firstE e n = 0 → ∀ k,k < n → e k = 0
 | 0,_,k,hk => by omega
 | n + 1,h,k,hk => by
  simp only [firstE] at h
  by_cases h1 : firstE e n = 0
  ·simp only [h1,ne_eq,not_true,if_false] at h
   rcases Nat.lt_succ_iff_lt_or_eq.1 hk with hk | rfl
   ·exact firstE_all h1 k hk
   ·exact h
  ·simp only [ne_eq,h1,not_false_iff,if_true] at h
theorem firstE_at {e : Nat → Int} {j : Nat} (hp : ∀ k,k < j → e k = 0) (he : e j ≠ 0) : ∀ {n : Nat},j < n → firstE e n = e j
 | 0,h => by omega
 | n + 1,h => by
  rcases Nat.lt_succ_iff_lt_or_eq.1 h with h | rfl
  ·have := firstE_at hp he h
   simp only [firstE,this,ne_eq,he,not_false_iff,if_true]
  ·have h1 : firstE e j = 0 := firstE_zero hp
   simp only [firstE,h1,ne_eq,not_true,if_false]
def furS (c : CodeS) : Nat → Int → Int
 | 0,r => r
 | n + 1,r => if r < 0 then r else furS c n (rAt c r).outer
def headBad (c : CodeS) (i : Nat) : Bool :=
 !inS (rAt c i).sig (len c.sigs) || !inS (rAt c i).frame (len c.maps) || ((i : Int) == 0 && !((rAt c i).outer == -1)) || (decide ((i : Int) > 0) && !inS (rAt c i).outer i)
def fromS (c : CodeS) (i : Nat) : Int := if (i : Int) > 0 then (rAt c (i - 1 : Nat)).to else 0
def orderBad (c : CodeS) (i : Nat) : Bool :=
 !((rAt c i).fr == fromS c i) || decide ((rAt c i).to ≤ (rAt c i).fr) || ((i : Int) == len c.routs - 1 && !((rAt c i).to == len c.insts))
def resL (c : CodeS) (i : Nat) : List SlotS := (mAt c (sAt c (rAt c i).sig).2).2
def parL (c : CodeS) (i : Nat) : List SlotS := (mAt c (sAt c (rAt c i).sig).1).2
def frmL (c : CodeS) (i : Nat) : List SlotS := (mAt c (rAt c i).frame).2
def shapeBad (c : CodeS) (i : Nat) : Bool :=
 ((i : Int) == 0 && decide (((resL c i ++ parL c i).length : Int) > 0)) || decide ((frmL c i).length < (resL c i ++ parL c i).length) || !decide ((frmL c i).take (resL c i ++ parL c i).length = resL c i ++ parL c i)
def rangeE (n m : Int) (k : Nat) (g : RangeS) : Int :=
 if ((k : Int) == 0 && !(g.outer == -1)) || (decide ((k : Int) > 0) && !inS g.outer k) then 10
 else if decide (g.fr < n) || decide (g.fr > g.to) || decide (g.to > m) then 11 else 0
def zRange : RangeS := ⟨0,0,0⟩
def rangesE (c : CodeS) (i : Nat) : Int := firstE (fun k => rangeE (resL c i).length (frmL c i).length k ((rAt c i).ranges.2.getD k zRange)) (rAt c i).ranges.2.length
def backBad (c : CodeS) (i : Nat) : Bool :=
 ((i : Int) == 0 && !((rAt c i).within == -1)) || (decide ((i : Int) > 0) && !inS (rAt c i).within (len (rAt c (rAt c i).outer).ranges)) || decide ((rAt c i).level < 0) || ((rAt c i).level == 0 && !((rAt c i).needs == 0))
def needBad (c : CodeS) (i : Nat) : Bool :=
 decide (furS c (rAt c i).level.toNat i < 0) || !inS (rAt c i).needs (len (rAt c (furS c (rAt c i).level.toNat i)).ranges)
def routE (c : CodeS) (i : Nat) : Int :=
 if headBad c i then 11 else if len (rAt c i).ranges = 0 then 12 else if orderBad c i then 10 else if shapeBad c i then 14
 else if rangesE c i ≠ 0 then rangesE c i else if backBad c i then 11 else if (rAt c i).level > 0 then (if needBad c i then 11 else 0) else 0
def routsE (c : CodeS) : Int := if len c.routs = 0 then 12 else firstE (routE c) c.routs.2.length
def OutOk (c : CodeS) (i : Nat) : Prop := ∀ k,k ≤ i → -1 ≤ (rAt c k).outer ∧ (rAt c k).outer < k
theorem outOk_of {c : CodeS} {i : Nat} (h : ∀ k,k ≤ i → headBad c k = false) : OutOk c i := fun k hk => by
 have := h k hk
 simp only [headBad,Bool.or_eq_false_iff,Bool.and_eq_false_iff,inS] at this
 obtain ⟨⟨-,h3⟩,h4⟩ := this
 by_cases h0 : k = 0
 ·subst h0
  simp at h3
  rw [show ((0 : Nat) : Int) = 0 from rfl] at *
  omega
 ·simp at h4
  omega
theorem furS_neg (c : CodeS) {r : Int} (h : r < 0) : ∀ n,furS c n r = r
 | 0 => rfl
 | n + 1 => by simp only [furS,h,if_true]
theorem furS_bound {c : CodeS} {i : Nat} (ho : OutOk c i) : ∀ (n : Nat) (r : Int),-1 ≤ r → r ≤ i → -1 ≤ furS c n r ∧ furS c n r ≤ r
 | 0,r,h1,h2 => ⟨h1,Int.le_refl _⟩
 | n + 1,r,h1,h2 => by
  simp only [furS]
  split
  ·exact ⟨h1,Int.le_refl _⟩
  ·have h := ho r.toNat (by omega)
   rw [Int.toNat_of_nonneg (by omega)] at h
   have := furS_bound ho n (rAt c r).outer h.1 (by omega)
   omega
end Go.Abs
namespace Go.Abs
def slotW (s : SlotS) : Str := numB s.kind ++ (numB s.size ++ (numB s.map ++ (numB s.dims ++ boolB s.flex)))
def mapW (m : List SlotS) : Str := listB slotW m
def sigW (p : Int × Int) : Str := numB p.1 ++ numB p.2
def rangeW (r : RangeS) : Str := numB r.outer ++ (numB r.fr ++ numB r.to)
structure RoutL where
 sig : Int
 frame : Int
 fr : Int
 «to» : Int
 outer : Int
 within : Int
 level : Int
 needs : Int
 ranges : List RangeS
def routW (r : RoutL) : Str := numB r.sig ++ (numB r.frame ++ (numB r.fr ++ (numB r.to ++ (numB r.outer ++ (numB r.within ++ (numB r.level ++ (numB r.needs ++ listB rangeW r.ranges)))))))
def operW (o : OperS) : Str := numB o.k ++ (numB o.a ++ numB o.b)
def instW (i : InstS) : Str := numB i.op ++ (operW i.s ++ (operW i.t ++ (operW i.d ++ (numB i.n ++ numB i.k))))
def transW (t : TransS) : Str := textB t.word ++ (boolB t.file ++ numB t.map)
def intsW (l : List Int) : Str := listB numB l
structure CodeL where
 maps : List (List SlotS)
 unions : List (List Int)
 sigs : List (Int × Int)
 routs : List RoutL
 insts : List InstS
 jumps : List (List Int)
 parts : List (List Int)
 texts : List Str
 trans : List TransS
 lines : List (Int × Int)
def codeW (c : CodeL) : Str := listB mapW c.maps ++ (listB intsW c.unions ++ (listB sigW c.sigs ++ (listB routW c.routs ++ (listB instW c.insts ++ (listB intsW c.jumps ++ (listB intsW c.parts ++ (listB textB c.texts ++ (listB transW c.trans ++ listB sigW c.lines))))))))
def pSlot : Pa SlotS := pBind pNum fun a => pBind pNum fun b => pBind pNum fun c => pBind pNum fun d => pBind pBool fun e => pRet ⟨a,b,c,d,e⟩
def pMap1 : Pa (List SlotS) := pList pSlot
def pSig : Pa (Int × Int) := pBind pNum fun a => pBind pNum fun b => pRet (a,b)
def pRange1 : Pa RangeS := pBind pNum fun a => pBind pNum fun b => pBind pNum fun c => pRet ⟨a,b,c⟩
def pRout1 : Pa RoutL := pBind pNum fun a => pBind pNum fun b => pBind pNum fun c => pBind pNum fun d => pBind pNum fun e => pBind pNum fun f => pBind pNum fun g => pBind pNum fun h => pBind (pList pRange1) fun l => pRet ⟨a,b,c,d,e,f,g,h,l⟩
def pOper1 : Pa OperS := pBind pNum fun a => pBind pNum fun b => pBind pNum fun c => pRet ⟨a,b,c⟩
def pInst1 : Pa InstS := pBind pNum fun o => pBind pOper1 fun s => pBind pOper1 fun t => pBind pOper1 fun d => pBind pNum fun n => pBind pNum fun k => pRet ⟨o,s,t,d,n,k⟩
def pTrans1 : Pa TransS := pBind pText fun w => pBind pBool fun f => pBind pNum fun m => pRet ⟨w,f,m⟩
def pInts1 : Pa (List Int) := pList pNum
def pCode1 : Pa CodeL := pBind (pList pMap1) fun a => pBind (pList pInts1) fun b => pBind (pList pSig) fun c => pBind (pList pRout1) fun d => pBind (pList pInst1) fun e => pBind (pList pInts1) fun f => pBind (pList pInts1) fun g =>
 pBind (pList pText) fun h => pBind (pList pTrans1) fun i => pBind (pList pSig) fun j => pRet ⟨a,b,c,d,e,f,g,h,i,j⟩
def SlotI (s : SlotS) : Prop := InI s.kind ∧ InI s.size ∧ InI s.map ∧ InI s.dims
def SigI (p : Int × Int) : Prop := InI p.1 ∧ InI p.2
def RangeI (r : RangeS) : Prop := InI r.outer ∧ InI r.fr ∧ InI r.to
def LenI {α : Type} (l : List α) : Prop := l.length ≤ 9223372036854775807
def RoutI (r : RoutL) : Prop := InI r.sig ∧ InI r.frame ∧ InI r.fr ∧ InI r.to ∧ InI r.outer ∧ InI r.within ∧ InI r.level ∧ InI r.needs ∧ (LenI r.ranges ∧ ∀ g ∈ r.ranges,RangeI g)
def OperI (o : OperS) : Prop := InI o.k ∧ InI o.a ∧ InI o.b
def InstI (i : InstS) : Prop := InI i.op ∧ OperI i.s ∧ OperI i.t ∧ OperI i.d ∧ InI i.n ∧ InI i.k
def TransI (t : TransS) : Prop := LenI t.word ∧ InI t.map
def ListI {α : Type} (ok : α → Prop) (l : List α) : Prop := LenI l ∧ ∀ a ∈ l,ok a
structure CodeI (c : CodeL) : Prop where
 maps : ListI (ListI SlotI) c.maps
 unions : ListI (ListI InI) c.unions
 sigs : ListI SigI c.sigs
 routs : ListI RoutI c.routs
 insts : ListI InstI c.insts
 jumps : ListI (ListI InI) c.jumps
 parts : ListI (ListI InI) c.parts
 texts : ListI LenI c.texts
 trans : ListI TransI c.trans
 lines : ListI SigI c.lines
end Go.Abs

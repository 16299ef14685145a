import Derived.Test.YtgghfcchanilpaaGreatDoorPlC
set_option linter.unusedVariables false
set_option linter.unusedSimpArgs false
namespace Go.Abs
abbrev Sl (α : Type) := LK × List α
def pvSl {α : Type} (enc : α → PV) (l : Sl α) : PV := .list l.1 (l.2.map enc)
structure SlotS where
 kind : Int
 size : Int
 map : Int
 dims : Int
 flex : Bool
 deriving DecidableEq
structure RangeS where
 outer : Int
 fr : Int
 «to» : Int
 deriving DecidableEq
structure RoutS where
 sig : Int
 frame : Int
 fr : Int
 «to» : Int
 outer : Int
 within : Int
 level : Int
 needs : Int
 ranges : Sl RangeS
structure TransS where
 word : Str
 file : Bool
 map : Int
structure CodeS where
 maps : Sl (Sl SlotS)
 unions : Sl (Sl Int)
 sigs : Sl (Int × Int)
 routs : Sl RoutS
 insts : Sl InstS
 jumps : Sl (Sl Int)
 parts : Sl (Sl Int)
 texts : Sl Str
 trans : Sl TransS
 lines : Sl (Int × Int)
def pvI (n : Int) : PV := .int .i64 n
def pvSlot (s : SlotS) : PV := .agg [.int .i64 s.kind,.int .i64 s.size,.int .i64 s.map,.int .i64 s.dims,.bool s.flex]
def pvMap (m : Sl SlotS) : PV := .agg [pvSl pvSlot m]
def pvInts (l : Sl Int) : PV := pvSl pvI l
def pvSig (p : Int × Int) : PV := .agg [.int .i64 p.1,.int .i64 p.2]
def pvRange (r : RangeS) : PV := .agg [.int .i64 r.outer,.int .i64 r.fr,.int .i64 r.to]
def pvRout (r : RoutS) : PV := .agg [.int .i64 r.sig,.int .i64 r.frame,.int .i64 r.fr,.int .i64 r.to,.int .i64 r.outer,.int .i64 r.within,.int .i64 r.level,.int .i64 r.needs,pvSl pvRange r.ranges]
def pvTrans (t : TransS) : PV := .agg [.str t.word,.bool t.file,.int .i64 t.map]
def codeCells (c : CodeS) : List PV := [pvSl pvMap c.maps,pvSl pvInts c.unions,pvSl pvSig c.sigs,pvSl pvRout c.routs,pvSl pvInst c.insts,pvSl pvInts c.jumps,pvSl pvInts c.parts,pvSl PV.str c.texts,pvSl pvTrans c.trans,pvSl pvSig c.lines]
def pvCode (c : CodeS) : PV := .agg (codeCells c)
def pvChk (c : CodeS) (rows idents : Int) : PV := .agg (codeCells c ++ [.int .i64 rows,.int .i64 idents])
def len {α : Type} (l : Sl α) : Int := (l.2.length : Int)
def inS (n most : Int) : Bool := decide (n ≥ 0) && decide (n < most)
def atI {α : Type} (d : α) (l : Sl α) (i : Int) : α := l.2.getD i.toNat d
structure Okay (c : CodeS) : Prop where
 maps : c.maps.2.length ≤ 1048576
 slots : ∀ m ∈ c.maps.2,m.2.length ≤ 1048576
 unions : c.unions.2.length ≤ 1048576
 union : ∀ m ∈ c.unions.2,m.2.length ≤ 1048576
 sigs : c.sigs.2.length ≤ 1048576
 routs : c.routs.2.length ≤ 1048576
 ranges : ∀ r ∈ c.routs.2,r.ranges.2.length ≤ 1048576
 insts : c.insts.2.length ≤ 1048576
 jumps : c.jumps.2.length ≤ 1048576
 jump : ∀ m ∈ c.jumps.2,m.2.length ≤ 1048576
 parts : c.parts.2.length ≤ 1048576
 part : ∀ m ∈ c.parts.2,m.2.length ≤ 1048576
 texts : c.texts.2.length ≤ 1048576
 text : ∀ m ∈ c.texts.2,m.length ≤ 1048576
 trans : c.trans.2.length ≤ 1048576
 word : ∀ m ∈ c.trans.2,m.word.length ≤ 1048576
 lines : c.lines.2.length ≤ 1048576
def longL (l : Sl (Sl Int)) : Bool := l.2.any fun t => decide (len t > 4000)
def lensOver (c : CodeS) : Bool := [len c.insts,len c.maps,len c.unions,len c.sigs,len c.routs,len c.jumps,len c.parts,len c.texts,len c.trans,len c.lines].any fun n => decide (n > 16384)
def innerOver (c : CodeS) : Bool := (c.maps.2.any fun m => decide (len m > 1000)) || ((c.routs.2.any fun r => decide (len r.ranges > 4000)) || (c.texts.2.any fun s => decide ((s.length : Int) > 65536)))
def overB (c : CodeS) : Bool := lensOver c || (innerOver c || (longL c.unions || (longL c.jumps || longL c.parts)))
def slotN (c : CodeS) (k : Int) : Int := if k = 8 ∨ k = 9 then len c.maps else if k = 10 then len c.unions else if k = 11 then len c.sigs else 1
def sizedB (k : Int) : Bool := decide (k = 2) || (decide (k = 3) || decide (k = 4))
def slotB (c : CodeS) (s : SlotS) : Bool :=
 decide (s.kind ≥ 0) && (decide (s.kind < 12) && ((decide (s.size = 0) || (sizedB s.kind && (decide (s.size ≥ -1) && decide (s.size ≤ 1)))) &&
  (((decide (s.kind = 9) && (decide (s.dims ≥ 1) && decide (s.dims ≤ 3))) || (!decide (s.kind = 9) && (decide (s.dims = 0) && !s.flex))) && inS s.map (slotN c s.kind))))
def slotsBad (c : CodeS) : Bool := c.maps.2.any fun m => m.2.any fun s => !slotB c s
def unionsBad (c : CodeS) : Bool := c.unions.2.any fun u => u.2.any fun m => !inS m (len c.maps)
def sigsBad (c : CodeS) : Bool := c.sigs.2.any fun p => !inS p.1 (len c.maps) || !inS p.2 (len c.maps)
def unionsEmpty (c : CodeS) : Bool := c.unions.2.any fun u => decide (len u = 0)
def linksE (c : CodeS) : Int := if unionsBad c then 11 else if sigsBad c then 11 else if unionsEmpty c then 12 else 0
end Go.Abs
namespace Go.Abs
def lebF : Nat → Nat → Str
 | 0,u => [UInt8.ofNat u]
 | f + 1,u => if 128 ≤ u then UInt8.ofNat (u % 128 + 128) :: lebF f (u / 128) else [UInt8.ofNat u]
def zig (n : Int) : Nat := if n < 0 then (-2 * n - 1).toNat else (2 * n).toNat
def zag (u : Nat) : Int := if u % 2 = 1 then -((u / 2 : Nat) : Int) - 1 else ((u / 2 : Nat) : Int)
def numB (n : Int) : Str := lebF 9 (zig n)
theorem zag_zig (n : Int) : zag (zig n) = n := by
 unfold zag zig
 split <;> split <;> omega
theorem zig_lt {n : Int} (h0 : -9223372036854775808 ≤ n) (h1 : n ≤ 9223372036854775807) : zig n < 18446744073709551616 := by
 unfold zig
 split <;> omega
theorem lebF_len : ∀ (f u : Nat),1 ≤ (lebF f u).length ∧ (lebF f u).length ≤ f + 1
 | 0,u => by simp [lebF]
 | f + 1,u => by
  have := lebF_len f (u / 128)
  unfold lebF
  split
  ·simp only [List.length_cons]; omega
  ·simp
theorem numB_len (n : Int) : 1 ≤ (numB n).length ∧ (numB n).length ≤ 10 := lebF_len 9 (zig n)
def lebR : Nat → Nat → Nat → Str → Except Int (Nat × Str)
 | 0,_,_,_ => .error 2
 | f + 1,k,u,[] => .error 16
 | f + 1,k,u,c :: l =>
  if (k = 9 ∧ c.toNat > 1) ∨ (k > 0 ∧ c.toNat = 0) then .error 2
  else if c.toNat < 128 then .ok (u + c.toNat * 128 ^ k,l) else lebR f (k + 1) (u + (c.toNat - 128) * 128 ^ k) l
theorem byte_nat {n : Nat} (h : n < 256) : (UInt8.ofNat n).toNat = n := by
 rw [UInt8.toNat_ofNat',Nat.mod_eq_of_lt h]
theorem lebR_lebF : ∀ (f k u v : Nat) (l : Str),f + k = 9 → v < 2 * 128 ^ f → (k = 0 ∨ v > 0) → lebR (f + 1) k u (lebF f v ++ l) = .ok (u + v * 128 ^ k,l)
 | 0,k,u,v,l,hk,hv,h0 => by
  have hk9 : k = 9 := by omega
  subst hk9
  have hv2 : v < 2 := by simpa using hv
  have hn : (UInt8.ofNat v).toNat = v := byte_nat (by omega)
  simp only [lebF,List.cons_append,List.nil_append,lebR,hn]
  rw [if_neg (by omega),if_pos (by omega)]
 | f + 1,k,u,v,l,hk,hv,h0 => by
  unfold lebF
  by_cases h128 : 128 ≤ v
  ·rw [if_pos h128]
   have hn : (UInt8.ofNat (v % 128 + 128)).toNat = v % 128 + 128 := byte_nat (by omega)
   have ih := lebR_lebF f (k + 1) (u + v % 128 * 128 ^ k) (v / 128) l (by omega) (by rw [Nat.pow_succ] at hv; omega) (.inr (by omega))
   rw [List.cons_append,lebR.eq_def]
   simp only [hn]
   rw [if_neg (by omega),if_neg (by omega),Nat.add_sub_cancel,ih]
   have e : u + v % 128 * 128 ^ k + v / 128 * 128 ^ (k + 1) = u + v * 128 ^ k := by
    rw [Nat.pow_succ,Nat.add_assoc]
    congr 1
    have : v / 128 * (128 ^ k * 128) = (128 * (v / 128)) * 128 ^ k := by
     rw [Nat.mul_comm (128 ^ k) 128,← Nat.mul_assoc,Nat.mul_comm (v / 128) 128]
    rw [this,← Nat.add_mul]
    congr 1
    omega
   rw [e]
  ·rw [if_neg h128]
   have hn : (UInt8.ofNat v).toNat = v := byte_nat (by omega)
   simp only [List.cons_append,List.nil_append,lebR,hn]
   rw [if_neg (by omega),if_pos (by omega)]
abbrev Pa (α : Type) := Str → Except Int (α × Str)
def pRet {α : Type} (a : α) : Pa α := fun s => .ok (a,s)
def pBind {α β : Type} (p : Pa α) (f : α → Pa β) : Pa β := fun s => match p s with
 | .error e => .error e
 | .ok (a,l) => f a l
def pNum : Pa Int := fun s => match lebR 10 0 0 s with
 | .error e => .error e
 | .ok (u,l) => .ok (zag u,l)
def pLen : Pa Nat := pBind pNum fun n s => if n < 0 ∨ n > (s.length : Int) then .error 2 else .ok (n.toNat,s)
def pText : Pa Str := pBind pLen fun n s => .ok (s.take n,s.drop n)
def pBool : Pa Bool := pBind pNum fun n s => if n ≠ 0 ∧ n ≠ 1 then .error 2 else .ok (n == 1,s)
def pRep {α : Type} (p : Pa α) : Nat → Pa (List α)
 | 0 => pRet []
 | n + 1 => pBind p fun a => pBind (pRep p n) fun l => pRet (a :: l)
def pList {α : Type} (p : Pa α) : Pa (List α) := pBind pLen fun n => pRep p n
def Back {α : Type} (p : Pa α) (f : α → Str) (ok : α → Prop) : Prop := ∀ a l,ok a → p (f a ++ l) = .ok (a,l)
theorem Back.bind {α β : Type} {p : Pa α} {f : α → Str} {ok : α → Prop} (h : Back p f ok) {a : α} (ha : ok a) (k : α → Pa β) (l : Str) : pBind p k (f a ++ l) = k a l := by
 unfold pBind
 rw [h a l ha]
def InI (n : Int) : Prop := -9223372036854775808 ≤ n ∧ n ≤ 9223372036854775807
theorem back_num : Back pNum numB InI := by
 intro n l hn
 have h := lebR_lebF 9 0 0 (zig n) l rfl (by have := zig_lt hn.1 hn.2; simpa using this) (.inl rfl)
 unfold pNum numB
 rw [h]
 simp only [Nat.zero_add,Nat.pow_zero,Nat.mul_one,zag_zig]
def textB (s : Str) : Str := numB s.length ++ s
def boolB (b : Bool) : Str := numB (if b then 1 else 0)
def listB {α : Type} (f : α → Str) (l : List α) : Str := numB l.length ++ l.flatMap f
theorem back_len {n : Nat} (hn : n ≤ 9223372036854775807) {s : Str} (hl : n ≤ s.length) {β : Type} (k : Nat → Pa β) : pBind pLen k (numB n ++ s) = k n s := by
 have h : pLen (numB n ++ s) = .ok (n,s) := by
  unfold pLen
  rw [back_num.bind ⟨by omega,by omega⟩,if_neg (by omega)]
  rfl
 unfold pBind
 rw [h]
theorem back_text : Back pText textB fun s => s.length ≤ 9223372036854775807 := by
 intro s l hs
 unfold pText textB
 rw [List.append_assoc,back_len hs (by simp)]
 simp
theorem back_bool : Back pBool boolB fun _ => True := by
 intro b l _
 unfold pBool boolB
 rw [back_num.bind (by cases b <;> simp [InI])]
 cases b <;> simp
theorem back_rep {α : Type} {p : Pa α} {f : α → Str} {ok : α → Prop} (h : Back p f ok) : ∀ (l : List α) (s : Str),(∀ a ∈ l,ok a) → pRep p l.length (l.flatMap f ++ s) = .ok (l,s)
 | [],s,_ => rfl
 | a :: l,s,hl => by
  simp only [List.length_cons,pRep,List.flatMap_cons,List.append_assoc]
  rw [h.bind (hl a (by simp))]
  unfold pBind
  rw [back_rep h l s fun b hb => hl b (by simp [hb])]
  rfl
theorem flat_ge {α : Type} {f : α → Str} (h1 : ∀ a,1 ≤ (f a).length) : ∀ l : List α,l.length ≤ (l.flatMap f).length
 | [] => by simp
 | a :: l => by
  have := flat_ge h1 l
  have := h1 a
  simp only [List.flatMap_cons,List.length_append,List.length_cons]
  omega
theorem back_list {α : Type} {p : Pa α} {f : α → Str} {ok : α → Prop} (h : Back p f ok) (h1 : ∀ a,1 ≤ (f a).length) : Back (pList p) (listB f) fun l => l.length ≤ 9223372036854775807 ∧ ∀ a ∈ l,ok a := by
 intro l s hl
 unfold pList listB
 rw [List.append_assoc,back_len hl.1 (by have := flat_ge h1 l; rw [List.length_append]; omega)]
 exact back_rep h l s hl.2
end Go.Abs

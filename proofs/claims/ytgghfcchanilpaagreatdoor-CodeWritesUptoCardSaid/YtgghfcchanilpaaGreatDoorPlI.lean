import Derived.Test.YtgghfcchanilpaaGreatDoorAbsArgs
import Derived.Test.YtgghfcchanilpaaGreatDoorRowKit31
import Derived.Test.YtgghfcchanilpaaGreatDoorPlB
set_option linter.unusedVariables false
set_option linter.unusedSimpArgs false
namespace Go.Abs
section
variable {H : Type} {encH : TypeId × Value → H} {P : Program} {W : World} {held : Bool}
structure FieldsO (held : Bool) (encH : TypeId × Value → H) (P : Program) (W : World) {α : Type} (enc : α → List PV) (dat : α → List (DataW H) → Prop) (o : Nat) (fs : List Field) (sz : Nat) : Prop where
 len : ∀ a,(enc a).length = sz
 open_ : ∀ (n : Nat) (cs : List Value) (xs : List (DataW H × List MemPlace)),o + sz ≤ cs.length → xs.length = fs.length →
  (∀ (i : Nat) f,fs[i]? = some f → DataW.trod encH P W 0 (fun _ => true) held n f.type ((cs.drop f.offset).take (P.cellsOf f.type)) = xs[i]?) →
  ∃ a,CellsR (Gh.all W) (enc a) ((cs.drop o).take sz) ∧ dat a (xs.map (·.1))
theorem fields_nil {o : Nat} : FieldsO held encH P W (fun _ : Unit => []) (fun _ ds => ds = []) o [] 0 where
 len _ := rfl
 open_ := by
  intro n cs xs _ hl _
  obtain rfl : xs = [] := List.length_eq_zero_iff.1 hl
  exact ⟨(),⟨by simp,fun i x v hx => by simp at hx,fun v hv => by simp at hv⟩,rfl⟩
theorem fields_cons {α β : Type} {e0 : α → PV} {d0 : α → DataW H → Prop} {enc1 : β → List PV} {dat1 : β → List (DataW H) → Prop} {f : Field} {fs : List Field} {o t0 s0 s1 : Nat} (ht : f.type = t0) (ho : f.offset = o)
  (O : Opens' held encH P W e0 d0 t0 s0) (R : FieldsO held encH P W enc1 dat1 (o + s0) fs s1) :
  FieldsO held encH P W (fun p : α × β => pcells (e0 p.1) ++ enc1 p.2) (fun p ds => ∃ d ds',ds = d :: ds' ∧ d0 p.1 d ∧ dat1 p.2 ds') o (f :: fs) (s0 + s1) where
 len := by
  rintro ⟨a,b⟩
  obtain ⟨c,q,l⟩ := O.sized a
  simp [pcells,q,l,R.len b]
 open_ := by
  intro n cs xs hlen hl h
  cases xs with
  | nil => simp at hl
  | cons x xs =>
   have h0 := h 0 f rfl
   simp only [List.getElem?_cons_zero] at h0
   rw [ht,ho,O.cells] at h0
   obtain ⟨a,v,hv,rv,cv,dv⟩ := O.open_ _ _ _ (by simp; omega) h0
   obtain ⟨b,rb,db⟩ := R.open_ n cs xs (by omega) (by simpa using hl) (fun i g hg => by simpa using h (i + 1) g (by simpa using hg))
   obtain ⟨c,q,l⟩ := O.sized a
   refine ⟨(a,b),?_,x.1,xs.map (·.1),rfl,dv,db⟩
   have e : (cs.drop o).take (s0 + s1) = v.cells.toList ++ (cs.drop (o + s0)).take s1 := by
    rw [hv,List.take_add,List.drop_drop]
   rw [e]
   have hp : pcells (e0 a) = c := by simp [pcells,q]
   simp only
   rw [hp]
   exact cellsR_append (rv.cellsR q) rb
theorem opens_struct {α : Type} {enc : α → List PV} {dat : α → List (DataW H) → Prop} {t sz : Nat} {fs : Array Field} (ht : P.underlying t = some (.struct fs)) (hc : P.cellsOf t = sz) (F : FieldsO held encH P W enc dat 0 fs.toList sz) :
  Opens' held encH P W (fun a => .agg (enc a)) (fun a d => ∃ ds,d = .agg ds ∧ dat a ds) t sz where
 cells := hc
 sized a := ⟨_,rfl,F.len a⟩
 open_ := by
  intro fuel cs x hl h
  obtain ⟨xs,n,rfl,rfl,h1,h2,h3⟩ := DataW.trod_struct ht h
  obtain ⟨a,ra,da⟩ := F.open_ n cs xs (by omega) (by simpa using h2) (fun i f hf => h3 i f (by simpa using hf))
  have e : (cs.drop 0).take sz = cs := by rw [List.drop_zero,List.take_of_length_le (by omega)]
  rw [e] at ra
  obtain ⟨r1,r2,r3⟩ := ra
  refine ⟨a,.agg cs.toArray,by simp [Value.cells],.agg _ _ (by simpa using r1) (fun i x v hx hv => r2 i x v hx (by simpa using hv)) (fun i v hv => r3 v (List.mem_of_getElem? (by simpa using hv))),r3,_,rfl,da⟩
theorem Opens'.iso {α β : Type} {enc : α → PV} {dat : α → DataW H → Prop} {t sz : Nat} (O : Opens' held encH P W enc dat t sz) (g : α → β) (k : β → α) (hk : ∀ a,k (g a) = a) {enc' : β → PV} (he : ∀ b,enc' b = enc (k b)) :
  Opens' held encH P W enc' (fun b => dat (k b)) t sz where
 cells := O.cells
 sized b := by rw [he]; exact O.sized _
 open_ := by
  intro fuel cs x hl h
  obtain ⟨a,v,h1,h2,h3,h4⟩ := O.open_ fuel cs x hl h
  exact ⟨g a,v,h1,by rw [he,hk]; exact h2,h3,by rw [hk]; exact h4⟩
end
end Go.Abs
namespace Go.Proofs.YtgghfcchanilpaaGreatDoor
open Go Go.Abs Go.ChangeShapes Go.WideShapes Go.ChangeAt Go.RowKit
section
variable {H : Type} {encH : TypeId × Value → H} {W : World}
abbrev dBool (b : Bool) (d : DataW H) : Prop := d = .lit (.bool b)
abbrev dStr (s : Str) (d : DataW H) : Prop := d = .lit (.string s)
abbrev dInt (n : Int) (d : DataW H) : Prop := d = .lit (.int .i64 n) ∧ (Lit.int .i64 n).wf = true
theorem oBool : Opens encH Tryz.prog W PV.bool dBool 4 1 := opens_bool Tryz.underlying4 (by kernel_rfl)
theorem oStr : Opens encH Tryz.prog W PV.str dStr 9 1 := opens_str Tryz.underlying9 (by kernel_rfl)
theorem oInt : Opens encH Tryz.prog W (PV.int .i64) dInt 3 1 := opens_int Tryz.underlying3 (by kernel_rfl)
theorem oInt2 : Opens encH Tryz.prog W (PV.int .i64) dInt 2 1 := opens_int Tryz.underlying2 (by kernel_rfl)
theorem dInt_in {n : Int} {d : DataW H} (h : dInt n d) : inI64 n = true := by
 have h2 := h.2
 have e : (Lit.int .i64 n).wf = (decide (-9223372036854775808 ≤ n) && decide (n ≤ 9223372036854775807)) := rfl
 rw [e] at h2
 exact h2
abbrev dOper (o : OperS) (d : DataW H) : Prop := ∃ x y z,d = .agg [x,y,z] ∧ dInt o.k x ∧ dInt o.a y ∧ dInt o.b z
theorem dat_iff {α : Type} {enc : α → PV} {dat dat' : α → DataW H → Prop} {t sz : Nat} (O : Opens encH Tryz.prog W enc dat t sz) (h : ∀ a d,dat a d → dat' a d) : Opens encH Tryz.prog W enc dat' t sz where
 cells := O.cells
 sized := O.sized
 open_ := by
  intro fuel cs x hl hx
  obtain ⟨a,v,h1,h2,h3,h4⟩ := O.open_ fuel cs x hl hx
  exact ⟨a,v,h1,h2,h3,h _ _ h4⟩
theorem oOper : Opens encH Tryz.prog W pvOper dOper 28 3 :=
 dat_iff (Opens'.iso (opens_struct Tryz.underlying28 (by kernel_rfl) (fields_cons rfl rfl oInt (fields_cons rfl rfl oInt (fields_cons rfl rfl oInt fields_nil))))
  (fun p => OperS.mk p.1 p.2.1 p.2.2.1) (fun o => (o.k,o.a,o.b,())) (fun _ => rfl) (fun _ => rfl)) (by
   rintro a d ⟨ds,rfl,x,ds1,rfl,hx,y,ds2,rfl,hy,z,ds3,rfl,hz,rfl⟩
   exact ⟨_,_,_,rfl,hx,hy,hz⟩)
abbrev dInst (i : InstS) (d : DataW H) : Prop := ∃ o s t e n k,d = .agg [o,s,t,e,n,k] ∧ dInt i.op o ∧ dOper i.s s ∧ dOper i.t t ∧ dOper i.d e ∧ dInt i.n n ∧ dInt i.k k
theorem oInst : Opens encH Tryz.prog W pvInst dInst 30 12 :=
 dat_iff (Opens'.iso (opens_struct Tryz.underlying30 (by kernel_rfl) (fields_cons rfl rfl oInt (fields_cons rfl rfl oOper (fields_cons rfl rfl oOper (fields_cons rfl rfl oOper (fields_cons rfl rfl oInt2 (fields_cons rfl rfl oInt fields_nil)))))))
  (fun p => InstS.mk p.1 p.2.1 p.2.2.1 p.2.2.2.1 p.2.2.2.2.1 p.2.2.2.2.2.1) (fun i => (i.op,i.s,i.t,i.d,i.n,i.k,())) (fun _ => rfl) (fun _ => rfl)) (by
   rintro a d ⟨ds,rfl,x,ds1,rfl,hx,y,ds2,rfl,hy,z,ds3,rfl,hz,u,ds4,rfl,hu,v,ds5,rfl,hv,w,ds6,rfl,hw,rfl⟩
   exact ⟨_,_,_,_,_,_,rfl,hx,hy,hz,hu,hv,hw⟩)
end
end Go.Proofs.YtgghfcchanilpaaGreatDoor
namespace Go.Abs
abbrev Sl (α : Type) := LK × List α
def pvSl {α : Type} (enc : α → PV) (l : Sl α) : PV := .list l.1 (l.2.map enc)
structure SlotS where
 kind : Int
 size : Int
 map : Int
 dims : Int
 flex : Bool
 deriving DecidableEq
structure RangeS where
 outer : Int
 fr : Int
 «to» : Int
 deriving DecidableEq
structure RoutS where
 sig : Int
 frame : Int
 fr : Int
 «to» : Int
 outer : Int
 within : Int
 level : Int
 needs : Int
 ranges : Sl RangeS
structure TransS where
 word : Str
 file : Bool
 map : Int
structure CodeS where
 maps : Sl (Sl SlotS)
 unions : Sl (Sl Int)
 sigs : Sl (Int × Int)
 routs : Sl RoutS
 insts : Sl InstS
 jumps : Sl (Sl Int)
 parts : Sl (Sl Int)
 texts : Sl Str
 trans : Sl TransS
 lines : Sl (Int × Int)
def pvI (n : Int) : PV := .int .i64 n
def pvSlot (s : SlotS) : PV := .agg [.int .i64 s.kind,.int .i64 s.size,.int .i64 s.map,.int .i64 s.dims,.bool s.flex]
def pvMap (m : Sl SlotS) : PV := .agg [pvSl pvSlot m]
def pvInts (l : Sl Int) : PV := pvSl pvI l
def pvSig (p : Int × Int) : PV := .agg [.int .i64 p.1,.int .i64 p.2]
def pvRange (r : RangeS) : PV := .agg [.int .i64 r.outer,.int .i64 r.fr,.int .i64 r.to]
def pvRout (r : RoutS) : PV := .agg [.int .i64 r.sig,.int .i64 r.frame,.int .i64 r.fr,.int .i64 r.to,.int .i64 r.outer,.int .i64 r.within,.int .i64 r.level,.int .i64 r.needs,pvSl pvRange r.ranges]
def pvTrans (t : TransS) : PV := .agg [.str t.word,.bool t.file,.int .i64 t.map]
def codeCells (c : CodeS) : List PV := [pvSl pvMap c.maps,pvSl pvInts c.unions,pvSl pvSig c.sigs,pvSl pvRout c.routs,pvSl pvInst c.insts,pvSl pvInts c.jumps,pvSl pvInts c.parts,pvSl PV.str c.texts,pvSl pvTrans c.trans,pvSl pvSig c.lines]
def pvCode (c : CodeS) : PV := .agg (codeCells c)
def pvChk (c : CodeS) (rows idents : Int) : PV := .agg (codeCells c ++ [.int .i64 rows,.int .i64 idents])
def len {α : Type} (l : Sl α) : Int := (l.2.length : Int)
def inS (n most : Int) : Bool := decide (n ≥ 0) && decide (n < most)
def atI {α : Type} (d : α) (l : Sl α) (i : Int) : α := l.2.getD i.toNat d
structure Okay (c : CodeS) : Prop where
 maps : c.maps.2.length ≤ 1048576
 slots : ∀ m ∈ c.maps.2,m.2.length ≤ 1048576
 unions : c.unions.2.length ≤ 1048576
 union : ∀ m ∈ c.unions.2,m.2.length ≤ 1048576
 sigs : c.sigs.2.length ≤ 1048576
 routs : c.routs.2.length ≤ 1048576
 ranges : ∀ r ∈ c.routs.2,r.ranges.2.length ≤ 1048576
 insts : c.insts.2.length ≤ 1048576
 jumps : c.jumps.2.length ≤ 1048576
 jump : ∀ m ∈ c.jumps.2,m.2.length ≤ 1048576
 parts : c.parts.2.length ≤ 1048576
 part : ∀ m ∈ c.parts.2,m.2.length ≤ 1048576
 texts : c.texts.2.length ≤ 1048576
 text : ∀ m ∈ c.texts.2,m.length ≤ 1048576
 trans : c.trans.2.length ≤ 1048576
 word : ∀ m ∈ c.trans.2,m.word.length ≤ 1048576
 lines : c.lines.2.length ≤ 1048576
def longL (l : Sl (Sl Int)) : Bool := l.2.any fun t => decide (len t > 4000)
def lensOver (c : CodeS) : Bool := [len c.insts,len c.maps,len c.unions,len c.sigs,len c.routs,len c.jumps,len c.parts,len c.texts,len c.trans,len c.lines].any fun n => decide (n > 16384)
def innerOver (c : CodeS) : Bool := (c.maps.2.any fun m => decide (len m > 1000)) || ((c.routs.2.any fun r => decide (len r.ranges > 4000)) || (c.texts.2.any fun s => decide ((s.length : Int) > 65536)))
def overB (c : CodeS) : Bool := lensOver c || (innerOver c || (longL c.unions || (longL c.jumps || longL c.parts)))
def slotN (c : CodeS) (k : Int) : Int := if k = 8 ∨ k = 9 then len c.maps else if k = 10 then len c.unions else if k = 11 then len c.sigs else 1
def sizedB (k : Int) : Bool := decide (k = 2) || (decide (k = 3) || decide (k = 4))
def slotB (c : CodeS) (s : SlotS) : Bool :=
 decide (s.kind ≥ 0) && (decide (s.kind < 12) && ((decide (s.size = 0) || (sizedB s.kind && (decide (s.size ≥ -1) && decide (s.size ≤ 1)))) &&
  (((decide (s.kind = 9) && (decide (s.dims ≥ 1) && decide (s.dims ≤ 3))) || (!decide (s.kind = 9) && (decide (s.dims = 0) && !s.flex))) && inS s.map (slotN c s.kind))))
def slotsBad (c : CodeS) : Bool := c.maps.2.any fun m => m.2.any fun s => !slotB c s
def unionsBad (c : CodeS) : Bool := c.unions.2.any fun u => u.2.any fun m => !inS m (len c.maps)
def sigsBad (c : CodeS) : Bool := c.sigs.2.any fun p => !inS p.1 (len c.maps) || !inS p.2 (len c.maps)
def unionsEmpty (c : CodeS) : Bool := c.unions.2.any fun u => decide (len u = 0)
def linksE (c : CodeS) : Int := if unionsBad c then 11 else if sigsBad c then 11 else if unionsEmpty c then 12 else 0
end Go.Abs
namespace Go.Abs
def lebF : Nat → Nat → Str
 | 0,u => [UInt8.ofNat u]
 | f + 1,u => if 128 ≤ u then UInt8.ofNat (u % 128 + 128) :: lebF f (u / 128) else [UInt8.ofNat u]
def zig (n : Int) : Nat := if n < 0 then (-2 * n - 1).toNat else (2 * n).toNat
def numB (n : Int) : Str := lebF 9 (zig n)
theorem zig_lt {n : Int} (h0 : -9223372036854775808 ≤ n) (h1 : n ≤ 9223372036854775807) : zig n < 18446744073709551616 := by
 unfold zig
 split <;> omega
theorem lebF_len : ∀ (f u : Nat),1 ≤ (lebF f u).length ∧ (lebF f u).length ≤ f + 1
 | 0,u => by simp [lebF]
 | f + 1,u => by
  have := lebF_len f (u / 128)
  unfold lebF
  split
  ·simp only [List.length_cons]; omega
  ·simp
theorem numB_len (n : Int) : 1 ≤ (numB n).length ∧ (numB n).length ≤ 10 := lebF_len 9 (zig n)
theorem byte_nat {n : Nat} (h : n < 256) : (UInt8.ofNat n).toNat = n := by
 rw [UInt8.toNat_ofNat',Nat.mod_eq_of_lt h]
def InI (n : Int) : Prop := -9223372036854775808 ≤ n ∧ n ≤ 9223372036854775807
def textB (s : Str) : Str := numB s.length ++ s
def boolB (b : Bool) : Str := numB (if b then 1 else 0)
def listB {α : Type} (f : α → Str) (l : List α) : Str := numB l.length ++ l.flatMap f
end Go.Abs

import Derived.Test.YtgghfcchanilpaaGreatDoorPlI
set_option linter.unusedVariables false
set_option linter.unusedSimpArgs false
namespace Go.Abs
def zRout : RoutS := ⟨0,0,0,0,0,0,0,0,(.nil,[])⟩
def rAt (c : CodeS) (i : Int) : RoutS := atI zRout c.routs i
def mAt (c : CodeS) (i : Int) : Sl SlotS := atI (.nil,[]) c.maps i
def sAt (c : CodeS) (i : Int) : Int × Int := atI (0,0) c.sigs i
def firstE (e : Nat → Int) : Nat → Int
 | 0 => 0
 | n + 1 => if firstE e n ≠ 0 then firstE e n else e n
theorem firstE_zero {e : Nat → Int} : ∀ {n : Nat},(∀ k,k < n → e k = 0) → firstE e n = 0
 | 0,_ => rfl
 | n + 1,h => by
  have h1 : firstE e n = 0 := firstE_zero fun k hk => h k (by omega)
  simp only [firstE,h1,ne_eq,not_true,if_false]
  exact h n (by omega)
theorem firstE_all {e : Nat → Int} : ∀ {n : Nat},firstE e n = 0 → ∀ k,k < n → e k = 0
 | 0,_,k,hk => by omega
 | n + 1,h,k,hk => by
  simp only [firstE] at h
  by_cases h1 : firstE e n = 0
  ·simp only [h1,ne_eq,not_true,if_false] at h
   rcases Nat.lt_succ_iff_lt_or_eq.1 hk with hk | rfl
   ·exact firstE_all h1 k hk
   ·exact h
  ·simp only [ne_eq,h1,not_false_iff,if_true] at h
theorem firstE_at {e : Nat → Int} {j : Nat} (hp : ∀ k,k < j → e k = 0) (he : e j ≠ 0) : ∀ {n : Nat},j < n → firstE e n = e j
 | 0,h => by omega
 | n + 1,h => by
  rcases Nat.lt_succ_iff_lt_or_eq.1 h with h | rfl
  ·have := firstE_at hp he h
   simp only [firstE,this,ne_eq,he,not_false_iff,if_true]
  ·have h1 : firstE e j = 0 := firstE_zero hp
   simp only [firstE,h1,ne_eq,not_true,if_false]
def furS (c : CodeS) : Nat → Int → Int
 | 0,r => r
 | n + 1,r => if r < 0 then r else furS c n (rAt c r).outer
def headBad (c : CodeS) (i : Nat) : Bool :=
 !inS (rAt c i).sig (len c.sigs) || !inS (rAt c i).frame (len c.maps) || ((i : Int) == 0 && !((rAt c i).outer == -1)) || (decide ((i : Int) > 0) && !inS (rAt c i).outer i)
def fromS (c : CodeS) (i : Nat) : Int := if (i : Int) > 0 then (rAt c (i - 1 : Nat)).to else 0
def orderBad (c : CodeS) (i : Nat) : Bool :=
 !((rAt c i).fr == fromS c i) || decide ((rAt c i).to ≤ (rAt c i).fr) || ((i : Int) == len c.routs - 1 && !((rAt c i).to == len c.insts))
def resL (c : CodeS) (i : Nat) : List SlotS := (mAt c (sAt c (rAt c i).sig).2).2
def parL (c : CodeS) (i : Nat) : List SlotS := (mAt c (sAt c (rAt c i).sig).1).2
def frmL (c : CodeS) (i : Nat) : List SlotS := (mAt c (rAt c i).frame).2
def shapeBad (c : CodeS) (i : Nat) : Bool :=
 ((i : Int) == 0 && decide (((resL c i ++ parL c i).length : Int) > 0)) || decide ((frmL c i).length < (resL c i ++ parL c i).length) || !decide ((frmL c i).take (resL c i ++ parL c i).length = resL c i ++ parL c i)
def rangeE (n m : Int) (k : Nat) (g : RangeS) : Int :=
 if ((k : Int) == 0 && !(g.outer == -1)) || (decide ((k : Int) > 0) && !inS g.outer k) then 10
 else if decide (g.fr < n) || decide (g.fr > g.to) || decide (g.to > m) then 11 else 0
def zRange : RangeS := ⟨0,0,0⟩
def rangesE (c : CodeS) (i : Nat) : Int := firstE (fun k => rangeE (resL c i).length (frmL c i).length k ((rAt c i).ranges.2.getD k zRange)) (rAt c i).ranges.2.length
def backBad (c : CodeS) (i : Nat) : Bool :=
 ((i : Int) == 0 && !((rAt c i).within == -1)) || (decide ((i : Int) > 0) && !inS (rAt c i).within (len (rAt c (rAt c i).outer).ranges)) || decide ((rAt c i).level < 0) || ((rAt c i).level == 0 && !((rAt c i).needs == 0))
def needBad (c : CodeS) (i : Nat) : Bool :=
 decide (furS c (rAt c i).level.toNat i < 0) || !inS (rAt c i).needs (len (rAt c (furS c (rAt c i).level.toNat i)).ranges)
def routE (c : CodeS) (i : Nat) : Int :=
 if headBad c i then 11 else if len (rAt c i).ranges = 0 then 12 else if orderBad c i then 10 else if shapeBad c i then 14
 else if rangesE c i ≠ 0 then rangesE c i else if backBad c i then 11 else if (rAt c i).level > 0 then (if needBad c i then 11 else 0) else 0
def routsE (c : CodeS) : Int := if len c.routs = 0 then 12 else firstE (routE c) c.routs.2.length
def OutOk (c : CodeS) (i : Nat) : Prop := ∀ k,k ≤ i → -1 ≤ (rAt c k).outer ∧ (rAt c k).outer < k
theorem outOk_of {c : CodeS} {i : Nat} (h : ∀ k,k ≤ i → headBad c k = false) : OutOk c i := fun k hk => by
 have := h k hk
 simp only [headBad,Bool.or_eq_false_iff,Bool.and_eq_false_iff,inS] at this
 obtain ⟨⟨-,h3⟩,h4⟩ := this
 by_cases h0 : k = 0
 ·subst h0
  simp at h3
  rw [show ((0 : Nat) : Int) = 0 from rfl] at *
  omega
 ·simp at h4
  omega
theorem furS_neg (c : CodeS) {r : Int} (h : r < 0) : ∀ n,furS c n r = r
 | 0 => rfl
 | n + 1 => by simp only [furS,h,if_true]
theorem furS_bound {c : CodeS} {i : Nat} (ho : OutOk c i) : ∀ (n : Nat) (r : Int),-1 ≤ r → r ≤ i → -1 ≤ furS c n r ∧ furS c n r ≤ r
 | 0,r,h1,h2 => ⟨h1,Int.le_refl _⟩
 | n + 1,r,h1,h2 => by
  simp only [furS]
  split
  ·exact ⟨h1,Int.le_refl _⟩
  ·have h := ho r.toNat (by omega)
   rw [Int.toNat_of_nonneg (by omega)] at h
   have := furS_bound ho n (rAt c r).outer h.1 (by omega)
   omega
end Go.Abs
namespace Go.Abs
def slotW (s : SlotS) : Str := numB s.kind ++ (numB s.size ++ (numB s.map ++ (numB s.dims ++ boolB s.flex)))
def mapW (m : List SlotS) : Str := listB slotW m
def sigW (p : Int × Int) : Str := numB p.1 ++ numB p.2
def rangeW (r : RangeS) : Str := numB r.outer ++ (numB r.fr ++ numB r.to)
structure RoutL where
 sig : Int
 frame : Int
 fr : Int
 «to» : Int
 outer : Int
 within : Int
 level : Int
 needs : Int
 ranges : List RangeS
def routW (r : RoutL) : Str := numB r.sig ++ (numB r.frame ++ (numB r.fr ++ (numB r.to ++ (numB r.outer ++ (numB r.within ++ (numB r.level ++ (numB r.needs ++ listB rangeW r.ranges)))))))
def operW (o : OperS) : Str := numB o.k ++ (numB o.a ++ numB o.b)
def instW (i : InstS) : Str := numB i.op ++ (operW i.s ++ (operW i.t ++ (operW i.d ++ (numB i.n ++ numB i.k))))
def transW (t : TransS) : Str := textB t.word ++ (boolB t.file ++ numB t.map)
def intsW (l : List Int) : Str := listB numB l
structure CodeL where
 maps : List (List SlotS)
 unions : List (List Int)
 sigs : List (Int × Int)
 routs : List RoutL
 insts : List InstS
 jumps : List (List Int)
 parts : List (List Int)
 texts : List Str
 trans : List TransS
 lines : List (Int × Int)
def codeW (c : CodeL) : Str := listB mapW c.maps ++ (listB intsW c.unions ++ (listB sigW c.sigs ++ (listB routW c.routs ++ (listB instW c.insts ++ (listB intsW c.jumps ++ (listB intsW c.parts ++ (listB textB c.texts ++ (listB transW c.trans ++ listB sigW c.lines))))))))
def pSlot : Pa SlotS := pBind pNum fun a => pBind pNum fun b => pBind pNum fun c => pBind pNum fun d => pBind pBool fun e => pRet ⟨a,b,c,d,e⟩
def pMap1 : Pa (List SlotS) := pList pSlot
def pSig : Pa (Int × Int) := pBind pNum fun a => pBind pNum fun b => pRet (a,b)
def pRange1 : Pa RangeS := pBind pNum fun a => pBind pNum fun b => pBind pNum fun c => pRet ⟨a,b,c⟩
def pRout1 : Pa RoutL := pBind pNum fun a => pBind pNum fun b => pBind pNum fun c => pBind pNum fun d => pBind pNum fun e => pBind pNum fun f => pBind pNum fun g => pBind pNum fun h => pBind (pList pRange1) fun l => pRet ⟨a,b,c,d,e,f,g,h,l⟩
def pOper1 : Pa OperS := pBind pNum fun a => pBind pNum fun b => pBind pNum fun c => pRet ⟨a,b,c⟩
def pInst1 : Pa InstS := pBind pNum fun o => pBind pOper1 fun s => pBind pOper1 fun t => pBind pOper1 fun d => pBind pNum fun n => pBind pNum fun k => pRet ⟨o,s,t,d,n,k⟩
def pTrans1 : Pa TransS := pBind pText fun w => pBind pBool fun f => pBind pNum fun m => pRet ⟨w,f,m⟩
def pInts1 : Pa (List Int) := pList pNum
def pCode1 : Pa CodeL := pBind (pList pMap1) fun a => pBind (pList pInts1) fun b => pBind (pList pSig) fun c => pBind (pList pRout1) fun d => pBind (pList pInst1) fun e => pBind (pList pInts1) fun f => pBind (pList pInts1) fun g =>
 pBind (pList pText) fun h => pBind (pList pTrans1) fun i => pBind (pList pSig) fun j => pRet ⟨a,b,c,d,e,f,g,h,i,j⟩
def SlotI (s : SlotS) : Prop := InI s.kind ∧ InI s.size ∧ InI s.map ∧ InI s.dims
def SigI (p : Int × Int) : Prop := InI p.1 ∧ InI p.2
def RangeI (r : RangeS) : Prop := InI r.outer ∧ InI r.fr ∧ InI r.to
def LenI {α : Type} (l : List α) : Prop := l.length ≤ 9223372036854775807
def RoutI (r : RoutL) : Prop := InI r.sig ∧ InI r.frame ∧ InI r.fr ∧ InI r.to ∧ InI r.outer ∧ InI r.within ∧ InI r.level ∧ InI r.needs ∧ (LenI r.ranges ∧ ∀ g ∈ r.ranges,RangeI g)
def OperI (o : OperS) : Prop := InI o.k ∧ InI o.a ∧ InI o.b
def InstI (i : InstS) : Prop := InI i.op ∧ OperI i.s ∧ OperI i.t ∧ OperI i.d ∧ InI i.n ∧ InI i.k
def TransI (t : TransS) : Prop := LenI t.word ∧ InI t.map
def ListI {α : Type} (ok : α → Prop) (l : List α) : Prop := LenI l ∧ ∀ a ∈ l,ok a
structure CodeI (c : CodeL) : Prop where
 maps : ListI (ListI SlotI) c.maps
 unions : ListI (ListI InI) c.unions
 sigs : ListI SigI c.sigs
 routs : ListI RoutI c.routs
 insts : ListI InstI c.insts
 jumps : ListI (ListI InI) c.jumps
 parts : ListI (ListI InI) c.parts
 texts : ListI LenI c.texts
 trans : ListI TransI c.trans
 lines : ListI SigI c.lines
theorem listB_len {α : Type} (f : α → Str) (l : List α) : 1 ≤ (listB f l).length := by
 have := (numB_len l.length).1
 unfold listB
 rw [List.length_append]
 omega
theorem textB_len (s : Str) : 1 ≤ (textB s).length := by
 have := (numB_len s.length).1
 unfold textB
 rw [List.length_append]
 omega
theorem slotW_len (s : SlotS) : 1 ≤ (slotW s).length := by
 have := (numB_len s.kind).1
 unfold slotW
 rw [List.length_append]
 omega
theorem sigW_len (s : Int × Int) : 1 ≤ (sigW s).length := by
 have := (numB_len s.1).1
 unfold sigW
 rw [List.length_append]
 omega
theorem rangeW_len (s : RangeS) : 1 ≤ (rangeW s).length := by
 have := (numB_len s.outer).1
 unfold rangeW
 rw [List.length_append]
 omega
theorem routW_len (s : RoutL) : 1 ≤ (routW s).length := by
 have := (numB_len s.sig).1
 unfold routW
 rw [List.length_append]
 omega
theorem instW_len (s : InstS) : 1 ≤ (instW s).length := by
 have := (numB_len s.op).1
 unfold instW
 rw [List.length_append]
 omega
theorem transW_len (s : TransS) : 1 ≤ (transW s).length := by
 have := textB_len s.word
 unfold transW
 rw [List.length_append]
 omega
theorem back_slot : Back pSlot slotW SlotI := by
 rintro ⟨a,b,c,d,e⟩ l ⟨h1,h2,h3,h4⟩
 simp only [pSlot,slotW,List.append_assoc]
 rw [back_num.bind h1,back_num.bind h2,back_num.bind h3,back_num.bind h4,back_bool.bind trivial]
 rfl
theorem back_sig : Back pSig sigW SigI := by
 rintro ⟨a,b⟩ l ⟨h1,h2⟩
 simp only [pSig,sigW,List.append_assoc]
 rw [back_num.bind h1,back_num.bind h2]
 rfl
theorem back_range : Back pRange1 rangeW RangeI := by
 rintro ⟨a,b,c⟩ l ⟨h1,h2,h3⟩
 simp only [pRange1,rangeW,List.append_assoc]
 rw [back_num.bind h1,back_num.bind h2,back_num.bind h3]
 rfl
theorem back_rout : Back pRout1 routW RoutI := by
 rintro ⟨a,b,c,d,e,f,g,h,i⟩ l ⟨h1,h2,h3,h4,h5,h6,h7,h8,h9⟩
 simp only [pRout1,routW,List.append_assoc]
 rw [back_num.bind h1,back_num.bind h2,back_num.bind h3,back_num.bind h4,back_num.bind h5,back_num.bind h6,back_num.bind h7,back_num.bind h8,(back_list back_range rangeW_len).bind h9]
 rfl
theorem back_oper : Back pOper1 operW OperI := by
 rintro ⟨a,b,c⟩ l ⟨h1,h2,h3⟩
 simp only [pOper1,operW,List.append_assoc]
 rw [back_num.bind h1,back_num.bind h2,back_num.bind h3]
 rfl
theorem back_inst : Back pInst1 instW InstI := by
 rintro ⟨a,b,c,d,e,f⟩ l ⟨h1,h2,h3,h4,h5,h6⟩
 simp only [pInst1,instW,List.append_assoc]
 rw [back_num.bind h1,back_oper.bind h2,back_oper.bind h3,back_oper.bind h4,back_num.bind h5,back_num.bind h6]
 rfl
theorem back_trans : Back pTrans1 transW TransI := by
 rintro ⟨a,b,c⟩ l ⟨h1,h2⟩
 simp only [pTrans1,transW,List.append_assoc]
 rw [back_text.bind h1,back_bool.bind trivial,back_num.bind h2]
 rfl
theorem back_ints : Back pInts1 intsW (ListI InI) := back_list back_num fun n => (numB_len n).1
theorem back_map : Back pMap1 mapW (ListI SlotI) := back_list back_slot slotW_len
theorem back_code : Back pCode1 codeW CodeI := by
 rintro ⟨a,b,c,d,e,f,g,h,i,j⟩ l ⟨h1,h2,h3,h4,h5,h6,h7,h8,h9,h10⟩
 simp only [pCode1,codeW,List.append_assoc]
 rw [(back_list back_map (listB_len slotW)).bind h1,(back_list back_ints (listB_len numB)).bind h2,(back_list back_sig sigW_len).bind h3,(back_list back_rout routW_len).bind h4,(back_list back_inst instW_len).bind h5,
  (back_list back_ints (listB_len numB)).bind h6,(back_list back_ints (listB_len numB)).bind h7,(back_list back_text textB_len).bind h8,(back_list back_trans transW_len).bind h9,(back_list back_sig sigW_len).bind h10]
 rfl
end Go.Abs

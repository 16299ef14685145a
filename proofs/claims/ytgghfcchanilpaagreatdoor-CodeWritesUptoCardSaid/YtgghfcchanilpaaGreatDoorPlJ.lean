import Derived.Test.YtgghfcchanilpaaGreatDoorPlI
set_option linter.unusedVariables false
set_option linter.unusedSimpArgs false
namespace Go.Abs
def zRout : RoutS := ⟨0,0,0,0,0,0,0,0,(.nil,[])⟩
def rAt (c : CodeS) (i : Int) : RoutS := atI zRout c.routs i
def mAt (c : CodeS) (i : Int) : Sl SlotS := atI (.nil,[]) c.maps i
def sAt (c : CodeS) (i : Int) : Int × Int := atI (0,0) c.sigs i
def firstE (e : Nat → Int) : Nat → Int
 | 0 => 0
 | n + 1 => if firstE e n ≠ 0 then firstE e n else e n
theorem firstE_zero {e : Nat → Int} : ∀ {n : Nat},(∀ k,k < n → e k = 0) → firstE e n = 0
 | 0,_ => rfl
 | n + 1,h => by
  have h1 : firstE e n = 0 := firstE_zero fun k hk => h k (by omega)
  simp only [firstE,h1,ne_eq,not_true,if_false]
  exact h n (by omega)
theorem firstE_all {e : Nat → Int} : ∀ {n : Nat},firstE e n = 0 → ∀ k,k < n → e k = 0
 | 0,_,k,hk => by omega
 | n + 1,h,k,hk => by
  simp only [firstE] at h
  by_cases h1 : firstE e n = 0
  ·simp only [h1,ne_eq,not_true,if_false] at h
   rcases Nat.lt_succ_iff_lt_or_eq.1 hk with hk | rfl
   ·exact firstE_all h1 k hk
   ·exact h
  ·simp only [ne_eq,h1,not_false_iff,if_true] at h
theorem firstE_at {e : Nat → Int} {j : Nat} (hp : ∀ k,k < j → e k = 0) (he : e j ≠ 0) : ∀ {n : Nat},j < n → firstE e n = e j
 | 0,h => by omega
 | n + 1,h => by
  rcases Nat.lt_succ_iff_lt_or_eq.1 h with h | rfl
  ·have := firstE_at hp he h
   simp only [firstE,this,ne_eq,he,not_false_iff,if_true]
  ·have h1 : firstE e j = 0 := firstE_zero hp
   simp only [firstE,h1,ne_eq,not_true,if_false]
def furS (c : CodeS) : Nat → Int → Int
 | 0,r => r
 | n + 1,r => if r < 0 then r else furS c n (rAt c r).outer
def headBad (c : CodeS) (i : Nat) : Bool :=
 !inS (rAt c i).sig (len c.sigs) || !inS (rAt c i).frame (len c.maps) || ((i : Int) == 0 && !((rAt c i).outer == -1)) || (decide ((i : Int) > 0) && !inS (rAt c i).outer i)
def fromS (c : CodeS) (i : Nat) : Int := if (i : Int) > 0 then (rAt c (i - 1 : Nat)).to else 0
def orderBad (c : CodeS) (i : Nat) : Bool :=
 !((rAt c i).fr == fromS c i) || decide ((rAt c i).to ≤ (rAt c i).fr) || ((i : Int) == len c.routs - 1 && !((rAt c i).to == len c.insts))
def resL (c : CodeS) (i : Nat) : List SlotS := (mAt c (sAt c (rAt c i).sig).2).2
def parL (c : CodeS) (i : Nat) : List SlotS := (mAt c (sAt c (rAt c i).sig).1).2
def frmL (c : CodeS) (i : Nat) : List SlotS := (mAt c (rAt c i).frame).2
def shapeBad (c : CodeS) (i : Nat) : Bool :=
 ((i : Int) == 0 && decide (((resL c i ++ parL c i).length : Int) > 0)) || decide ((frmL c i).length < (resL c i ++ parL c i).length) || !decide ((frmL c i).take (resL c i ++ parL c i).length = resL c i ++ parL c i)
def rangeE (n m : Int) (k : Nat) (g : RangeS) : Int :=
 if ((k : Int) == 0 && !(g.outer == -1)) || (decide ((k : Int) > 0) && !inS g.outer k) then 10
 else if decide (g.fr < n) || decide (g.fr > g.to) || decide (g.to > m) then 11 else 0
def zRange : RangeS := ⟨0,0,0⟩
def rangesE (c : CodeS) (i : Nat) : Int := firstE (fun k => rangeE (resL c i).length (frmL c i).length k ((rAt c i).ranges.2.getD k zRange)) (rAt c i).ranges.2.length
def backBad (c : CodeS) (i : Nat) : Bool :=
 ((i : Int) == 0 && !((rAt c i).within == -1)) || (decide ((i : Int) > 0) && !inS (rAt c i).within (len (rAt c (rAt c i).outer).ranges)) || decide ((rAt c i).level < 0) || ((rAt c i).level == 0 && !((rAt c i).needs == 0))
def needBad (c : CodeS) (i : Nat) : Bool :=
 decide (furS c (rAt c i).level.toNat i < 0) || !inS (rAt c i).needs (len (rAt c (furS c (rAt c i).level.toNat i)).ranges)
def routE (c : CodeS) (i : Nat) : Int :=
 if headBad c i then 11 else if len (rAt c i).ranges = 0 then 12 else if orderBad c i then 10 else if shapeBad c i then 14
 else if rangesE c i ≠ 0 then rangesE c i else if backBad c i then 11 else if (rAt c i).level > 0 then (if needBad c i then 11 else 0) else 0
def routsE (c : CodeS) : Int := if len c.routs = 0 then 12 else firstE (routE c) c.routs.2.length
def OutOk (c : CodeS) (i : Nat) : Prop := ∀ k,k ≤ i → -1 ≤ (rAt c k).outer ∧ (rAt c k).outer < k
theorem outOk_of {c : CodeS} {i : Nat} (h : ∀ k,k ≤ i → headBad c k = false) : OutOk c i := fun k hk => by
 have := h k hk
 simp only [headBad,Bool.or_eq_false_iff,Bool.and_eq_false_iff,inS] at this
 obtain ⟨⟨-,h3⟩,h4⟩ := this
 by_cases h0 : k = 0
 ·subst h0
  simp at h3
  rw [show ((0 : Nat) : Int) = 0 from rfl] at *
  omega
 ·simp at h4
  omega
theorem furS_neg (c : CodeS) {r : Int} (h : r < 0) : ∀ n,furS c n r = r
 | 0 => rfl
 | n + 1 => by simp only [furS,h,if_true]
theorem furS_bound {c : CodeS} {i : Nat} (ho : OutOk c i) : ∀ (n : Nat) (r : Int),-1 ≤ r → r ≤ i → -1 ≤ furS c n r ∧ furS c n r ≤ r
 | 0,r,h1,h2 => ⟨h1,Int.le_refl _⟩
 | n + 1,r,h1,h2 => by
  simp only [furS]
  split
  ·exact ⟨h1,Int.le_refl _⟩
  ·have h := ho r.toNat (by omega)
   rw [Int.toNat_of_nonneg (by omega)] at h
   have := furS_bound ho n (rAt c r).outer h.1 (by omega)
   omega
theorem furS_far {c : CodeS} {i : Nat} (ho : OutOk c i) : ∀ (n : Nat) (r : Int),-1 ≤ r → r ≤ i → r < n → furS c n r = -1
 | 0,r,h1,h2,h3 => by
  simp only [furS]
  omega
 | n + 1,r,h1,h2,h3 => by
  simp only [furS]
  split
  ·omega
  ·have h := ho r.toNat (by omega)
   rw [Int.toNat_of_nonneg (by omega)] at h
   exact furS_far ho n (rAt c r).outer h.1 (by omega) (by omega)
end Go.Abs
namespace Go.Abs
def slotW (s : SlotS) : Str := numB s.kind ++ (numB s.size ++ (numB s.map ++ (numB s.dims ++ boolB s.flex)))
def mapW (m : List SlotS) : Str := listB slotW m
def sigW (p : Int × Int) : Str := numB p.1 ++ numB p.2
def rangeW (r : RangeS) : Str := numB r.outer ++ (numB r.fr ++ numB r.to)
structure RoutL where
 sig : Int
 frame : Int
 fr : Int
 «to» : Int
 outer : Int
 within : Int
 level : Int
 needs : Int
 ranges : List RangeS
def routW (r : RoutL) : Str := numB r.sig ++ (numB r.frame ++ (numB r.fr ++ (numB r.to ++ (numB r.outer ++ (numB r.within ++ (numB r.level ++ (numB r.needs ++ listB rangeW r.ranges)))))))
def operW (o : OperS) : Str := numB o.k ++ (numB o.a ++ numB o.b)
def instW (i : InstS) : Str := numB i.op ++ (operW i.s ++ (operW i.t ++ (operW i.d ++ (numB i.n ++ numB i.k))))
def transW (t : TransS) : Str := textB t.word ++ (boolB t.file ++ numB t.map)
def intsW (l : List Int) : Str := listB numB l
structure CodeL where
 maps : List (List SlotS)
 unions : List (List Int)
 sigs : List (Int × Int)
 routs : List RoutL
 insts : List InstS
 jumps : List (List Int)
 parts : List (List Int)
 texts : List Str
 trans : List TransS
 lines : List (Int × Int)
def codeW (c : CodeL) : Str := listB mapW c.maps ++ (listB intsW c.unions ++ (listB sigW c.sigs ++ (listB routW c.routs ++ (listB instW c.insts ++ (listB intsW c.jumps ++ (listB intsW c.parts ++ (listB textB c.texts ++ (listB transW c.trans ++ listB sigW c.lines))))))))
def SlotI (s : SlotS) : Prop := InI s.kind ∧ InI s.size ∧ InI s.map ∧ InI s.dims
def SigI (p : Int × Int) : Prop := InI p.1 ∧ InI p.2
def RangeI (r : RangeS) : Prop := InI r.outer ∧ InI r.fr ∧ InI r.to
def LenI {α : Type} (l : List α) : Prop := l.length ≤ 9223372036854775807
def RoutI (r : RoutL) : Prop := InI r.sig ∧ InI r.frame ∧ InI r.fr ∧ InI r.to ∧ InI r.outer ∧ InI r.within ∧ InI r.level ∧ InI r.needs ∧ (LenI r.ranges ∧ ∀ g ∈ r.ranges,RangeI g)
def OperI (o : OperS) : Prop := InI o.k ∧ InI o.a ∧ InI o.b
def InstI (i : InstS) : Prop := InI i.op ∧ OperI i.s ∧ OperI i.t ∧ OperI i.d ∧ InI i.n ∧ InI i.k
def TransI (t : TransS) : Prop := LenI t.word ∧ InI t.map
def ListI {α : Type} (ok : α → Prop) (l : List α) : Prop := LenI l ∧ ∀ a ∈ l,ok a
structure CodeI (c : CodeL) : Prop where
 maps : ListI (ListI SlotI) c.maps
 unions : ListI (ListI InI) c.unions
 sigs : ListI SigI c.sigs
 routs : ListI RoutI c.routs
 insts : ListI InstI c.insts
 jumps : ListI (ListI InI) c.jumps
 parts : ListI (ListI InI) c.parts
 texts : ListI LenI c.texts
 trans : ListI TransI c.trans
 lines : ListI SigI c.lines
end Go.Abs

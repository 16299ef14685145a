import Derived.Test.YtgghfcchanilpaaGreatDoorSpN
set_option linter.unusedVariables false
set_option linter.unusedSimpArgs false
namespace Go.Proofs.YtgghfcchanilpaaGreatDoor
open Go Go.Abs
def furR (c : CodeS) (r n : Int) : Int := if n < 0 ∨ n > len c.routs then -1 else furS c n.toNat r
theorem c125 {c : CodeS} (hc : Okay c) {i : Nat} (ho : OutOk c i) (hi : (i : Int) < len c.routs) {r n : Int} (h0 : -1 ≤ r) (h1 : r ≤ i) (σ : St) : Ret W 125 [pvCode c,.int .i64 r,.int .i64 n] σ (.int .i64 (furR c r n)) := by
 refine ret_of fun R hR => ?_
 rw [fn125_eq]
 unfold fn125
 have hrl := hc.routs
 simp only [code_parts,sl_len,zz,Nat.reduceEqDiff]
 refine orG (decide (n > len c.routs)) (fun _ J hJ => ?_) ?_
 ·exact hJ _ rfl
 unfold furR at hR
 refine condB (fun hb => ?_) (fun hb => ?_)
 ·simp only [Bool.or_eq_true,decide_eq_true_eq] at hb
  rw [if_pos hb] at hR
  exact weakW_keep hR
 simp only [Bool.or_eq_false_iff,decide_eq_false_iff_not] at hb
 rw [if_neg (by omega)] at hR
 obtain ⟨m,rfl⟩ := Int.eq_ofNat_of_zero_le (Int.not_lt.1 hb.1)
 have hm : m ≤ 1048576 := by
  have := hb.2
  unfold len at this
  omega
 rw [Int.toNat_natCast] at hR
 generalize hF : furS c m r = F at hR
 refine CutW_by (fun x τ => x 1 = .int .i64 F ∧ τ = σ) (fun x τ hx => ?_) ?_
 ·obtain ⟨h1,rfl⟩ := hx
  simp only [h1]
  exact weakW_keep hR
 refine Lfp_up m (fun j x τ => ∃ r : Int,-1 ≤ r ∧ r ≤ i ∧ x = lookP [(1,.int .i64 r),(2,.int .i64 m),(7,.int .i64 j),(3,pvCode c)] ∧ τ = σ ∧ furS c (m - j) r = F) ?_ ⟨r,h0,h1,rfl,rfl,hF⟩
 rintro Φ j x τ hj ⟨r,h0,h1,rfl,rfl,hF⟩ next
 simp only [code_parts,zz,Nat.reduceEqDiff]
 refine andG (decide (r ≥ 0)) (fun _ J hJ => ?_) ?_
 ·exact hJ _ rfl
 refine condB (fun hb => ?_) (fun hb => ?_)
 ·simp only [Bool.and_eq_true,decide_eq_true_eq] at hb
  obtain ⟨hb1,hb2⟩ := hb
  have hjm : j < m := by omega
  have hk := ho r.toNat (by omega)
  rw [Int.toNat_of_nonneg hb2] at hk
  have hix : vIndex 9 (pvSl pvRout c.routs) (.int .i64 r) = some (.eptr (pvRout (rAt c r)) 0) := idxI encRout zRout hb2 (by omega)
  have hadd : vBin none .add (.int .i64 j) (.int .i64 1) = some (.int .i64 (j + 1 : Nat)) := vBin_add _ (by omega) (by omega)
  have h2 : ¬ r < 0 := by omega
  rw [show m - j = (m - (j + 1)) + 1 by omega] at hF
  simp only [furS,h2,if_false] at hF
  simp only [hix,fldE,rout_parts,hadd,zz,Nat.reduceEqDiff,Nat.reduceAdd]
  exact next _ _ hjm ⟨(rAt c r).outer,by omega,by omega,rfl,rfl,hF⟩
 ·refine ⟨?_,rfl⟩
  have : F = r := by
   rw [← hF]
   simp only [Bool.and_eq_false_iff,decide_eq_false_iff_not] at hb
   rcases hb with hb | hb
   ·have hjm : m - j = 0 := by omega
    rw [hjm]
    rfl
   ·exact furS_neg c (by omega) _
  rw [this]
theorem sized_slots {l : List SlotS} : ∀ z ∈ l.map pvSlot,Sized 5 z := fun x hx => by
 obtain ⟨s,_,rfl⟩ := List.mem_map.1 hx
 exact ⟨_,rfl,rfl⟩
theorem app_full {l : List SlotS} {k : LK} (hl : l.length ≤ 1048576) (σ : St) : ∃ y σ1,vAppend 5 40 (.list .full []) (.list k (l.map pvSlot)) σ = some (y,σ1) ∧ σ <+: σ1 ∧ ((l = [] ∧ y = .list .full [] ∧ σ1 = σ) ∨ Grow σ.length 5 σ1 y (l.map pvSlot)) := by
 cases l with
 | nil => exact ⟨_,_,rfl,List.prefix_refl _,.inl ⟨rfl,rfl,rfl⟩⟩
 | cons s l =>
  have hr : roomy (s :: l).length 40 = true := by simp only [roomy,decide_eq_true_eq]; omega
  refine ⟨.sref σ.length 0 5 0 (s :: l).length,σ ++ [.arr 0 5 ((s :: l).map pvSlot)],?_,List.prefix_append _ _,.inr (.inr ⟨σ.length,0,Nat.le_refl _,by simp,by simp,by simp⟩)⟩
  have hh : headSized 5 ((s :: l).map pvSlot) = true := headSized_of sized_slots
  have h0 : headSized 5 [] = true := rfl
  have hemp : ((s :: l).map pvSlot).isEmpty = false := rfl
  have hl2 : ([] : List PV).length + ((s :: l).map pvSlot).length = (s :: l).length := by simp
  simp only [vAppend,vElems,hemp,hl2,hr,hh,h0,Bool.false_eq_true,if_false,List.nil_append]
  rw [if_pos ⟨by decide,trivial,trivial,trivial⟩]
theorem app2 (A B : Sl SlotS) (hA : A.2.length ≤ 1048576) (hB : B.2.length ≤ 1048576) (σ : St) : ∃ y σ1 x τ,vAppend 5 40 (.list .full []) (pvSl pvSlot A) σ = some (y,σ1) ∧ vAppend 5 40 y (pvSl pvSlot B) σ1 = some (x,τ) ∧ σ <+: τ ∧ Elems τ 5 x ((A.2 ++ B.2).map pvSlot) := by
 obtain ⟨y,σ1,h1,hp,h⟩ := app_full (k := A.1) hA σ
 rcases h with ⟨h0,rfl,rfl⟩ | hg
 ·obtain ⟨x,τ,h2,hp2,h'⟩ := app_full (k := B.1) hB σ1
  refine ⟨_,_,x,τ,h1,h2,hp2,?_⟩
  rw [h0,List.nil_append]
  rcases h' with ⟨h0',rfl,rfl⟩ | hg'
  ·rw [h0']
   exact .list _ _
  ·exact hg'.elems
 ·obtain ⟨x,τ,h2,g2,p2,-⟩ := Grow.app (by_ := 40) hg hp (y := pvSl pvSlot B) (zs := B.2.map pvSlot) rfl sized_slots (by simp; omega)
  refine ⟨_,_,x,τ,h1,h2,p2,?_⟩
  rw [List.map_append]
  exact g2.elems
theorem c124 {c : CodeS} (hc : Okay c) (hsig : sigsBad c = false) {i : Nat} (hi : i < c.routs.2.length) (hh : headBad c i = false) (σ : St) : Ret W 124 [pvCode c,.int .i64 i] σ (.bool (!shapeBad c i)) := by
 refine ret_of fun R hR => ?_
 rw [fn124_eq]
 unfold fn124
 have hix : vIndex 9 (pvSl pvRout c.routs) (.int .i64 i) = some (.eptr (pvRout (rAt c i)) 0) := idxI encRout zRout (by omega) (by unfold len; omega)
 have hhc := hh
 simp only [headBad,Bool.or_eq_false_iff,Bool.not_eq_false',inS,Bool.and_eq_true,decide_eq_true_eq] at hhc
 obtain ⟨⟨⟨⟨hs0,hs1⟩,hf0,hf1⟩,-⟩,-⟩ := hhc
 have hsg : inS (sAt c (rAt c i).sig).1 (len c.maps) = true ∧ inS (sAt c (rAt c i).sig).2 (len c.maps) = true := by
  have hm : sAt c (rAt c i).sig ∈ c.sigs.2 := by
   have hn : (rAt c i).sig.toNat < c.sigs.2.length := by unfold len at hs1; omega
   simp [sAt,atI,List.getD_eq_getElem?_getD,hn]
  have := List.any_eq_false.1 hsig _ hm
  simpa using this
 obtain ⟨hsg1,hsg2⟩ := hsg
 simp only [inS,Bool.and_eq_true,decide_eq_true_eq] at hsg1 hsg2
 have ix1 : vIndex 2 (pvSl pvSig c.sigs) (.int .i64 (rAt c i).sig) = some (.eptr (pvSig (sAt c (rAt c i).sig)) 0) := idxI encSig (0,0) hs0 hs1
 have ix2 : vIndex 1 (pvSl pvMap c.maps) (.int .i64 (sAt c (rAt c i).sig).2) = some (.eptr (pvMap (mAt c (sAt c (rAt c i).sig).2)) 0) := idxI encMap (.nil,[]) hsg2.1 hsg2.2
 have ix3 : vIndex 1 (pvSl pvMap c.maps) (.int .i64 (sAt c (rAt c i).sig).1) = some (.eptr (pvMap (mAt c (sAt c (rAt c i).sig).1)) 0) := idxI encMap (.nil,[]) hsg1.1 hsg1.2
 have ix4 : vIndex 1 (pvSl pvMap c.maps) (.int .i64 (rAt c i).frame) = some (.eptr (pvMap (mAt c (rAt c i).frame)) 0) := idxI encMap (.nil,[]) hf0 hf1
 have hml : ∀ k : Int,(mAt c k).2.length ≤ 1048576 := fun k => by
  unfold mAt atI
  rw [List.getD_eq_getElem?_getD]
  cases hk : c.maps.2[k.toNat]? with
  | none => simp
  | some m => exact hc.slots m (List.mem_of_getElem? hk)
 have hb0 : vBuildSl 5 (List.replicate 0 (.agg [(.int .i64 0),(.int .i64 0),(.int .i64 0),(.int .i64 0),(.bool false)])) [] = some [] := rfl
 simp only [code_parts,hix,encRout.part,put_rout,rout_parts,ix1,ix2,ix3,ix4,encSig.part,sig_parts,fldE,map_part,hb0,zz,Nat.reduceEqDiff,Nat.reduceAdd]
 obtain ⟨y,σ1,x,τ,a1,a2,hp,hE⟩ := app2 (mAt c (sAt c (rAt c i).sig).2) (mAt c (sAt c (rAt c i).sig).1) (hml _) (hml _) σ
 have hE' : Elems τ 5 x ((resL c i ++ parL c i).map pvSlot) := hE
 have fin : ∀ b : Bool,(!shapeBad c i) = b → weakW σ (.bool b) τ fun v σ => R (.ret v) σ := fun b hb => by
  rw [hb] at hR
  exact weakW_clean hp (frz_same (.bool _)) hR
 clear hR
 have hres : (resL c i).length ≤ 1048576 := hml _
 have hpar : (parL c i).length ≤ 1048576 := hml _
 have hfrm : (frmL c i).length ≤ 1048576 := hml _
 have hF : (resL c i ++ parL c i).length ≤ 2097152 := by simp; omega
 have hsh : shapeBad c i = (((i : Int) == 0 && decide (((resL c i ++ parL c i).length : Int) > 0)) || decide ((frmL c i).length < (resL c i ++ parL c i).length) || !decide ((frmL c i).take (resL c i ++ parL c i).length = resL c i ++ parL c i)) := rfl
 generalize resL c i ++ parL c i = F at hF hsh hE'
 have hlen : ∀ σ : St,vLen .sl x σ = some (.int .i64 F.length) := fun σ => by rw [hE'.len σ,List.length_map]
 have hfr : pvSl pvSlot (mAt c (rAt c i).frame) = .list (mAt c (rAt c i).frame).1 ((frmL c i).map pvSlot) := rfl
 simp only [a1,a2,hlen,hfr,List.length_map,zz,Nat.reduceEqDiff]
 refine andG (decide ((F.length : Int) > 0)) (fun _ J hJ => ?_) ?_
 ·exact hJ _ rfl
 refine orG (decide ((frmL c i).length < F.length)) (fun _ J hJ => ?_) ?_
 ·exact hJ _ rfl
 refine condB (fun hb => ?_) (fun hb => ?_)
 ·refine fin _ ?_
  rw [hsh,hb]
  rfl
 rw [hb] at hsh
 simp only [Bool.or_eq_false_iff,decide_eq_false_iff_not] at hb
 have hle : F.length ≤ (frmL c i).length := by omega
 refine CutW_by (fun x τ' => τ' = τ ∧ shapeBad c i = false) (fun x τ' hx => ?_) ?_
 ·obtain ⟨rfl,hz⟩ := hx
  exact fin _ (by rw [hz]; rfl)
 refine Lfp_up F.length (fun j x' τ' => x' = lookP [(7,x),(8,.list (mAt c (rAt c i).frame).1 ((frmL c i).map pvSlot)),(9,.int .i64 j)] ∧ τ' = τ ∧ (frmL c i).take j = F.take j) ?_ ⟨rfl,rfl,rfl⟩
 rintro Φ j x' τ' hj ⟨rfl,rfl,he⟩ next
 by_cases hlt : j < F.length
 ·have hg : F[j]? = some F[j] := by simp [hlt]
  have hlt' : j < (frmL c i).length := by omega
  have hg' : (frmL c i)[j]? = some (frmL c i)[j] := by simp [hlt']
  have hne : F[j] ≠ (frmL c i)[j] → shapeBad c i = true := fun hn => by
   rw [hsh]
   have : (frmL c i).take F.length ≠ F := fun e => hn (by
    have h3 : F[j]? = (frmL c i)[j]? := by
     conv => lhs; rw [← e]
     rw [List.getElem?_take_of_lt hlt]
    rw [hg,hg'] at h3
    exact Option.some.inj h3)
   rw [decide_eq_false this]
   rfl
  generalize F[j] = s at hg hne
  generalize (frmL c i)[j] = t at hg' hne
  obtain ⟨p,q1,q2,-⟩ := hE'.at_ (k := .i64) (i := j) (e := pvSlot s) (by rw [List.getElem?_map,hg]; rfl) rfl rfl
  have hadd1 : vBin none .add (.int .i64 j) (.int .i64 1) = some (.int .i64 (j + 1 : Nat)) := vBin_add _ (by omega) (by omega)
  have p1 : vPart true 5 (pvSlot s) 0 = some (pvSlot s) := rfl
  have p2 : vPart true 5 (pvSlot t) 0 = some (pvSlot t) := rfl
  simp only [hlen,hlt,lt_len' hlt,decide_true,q1,q2,encSlot.index hg',p1,p2,slot_neq,hadd1,zz,Nat.reduceEqDiff]
  refine condB (fun hb => ?_) (fun hb => ?_)
  ·refine fin _ ?_
   rw [hne (by simpa using hb)]
   rfl
  ·have hst : s = t := by simpa using hb
   refine next _ _ hlt ⟨rfl,rfl,?_⟩
   rw [List.take_add_one,List.take_add_one,he,hg,hg',hst]
 ·obtain rfl : j = F.length := by omega
  simp only [hlen,Nat.lt_irrefl,not_lt_len',decide_false,zz,Nat.reduceEqDiff]
  refine ⟨trivial,?_⟩
  rw [hsh,he,List.take_length]
  simp
theorem furR_eq {c : CodeS} {i : Nat} (ho : OutOk c i) (hi : (i : Int) < len c.routs) {n : Int} (hn : 0 ≤ n) : furR c i n = furS c n.toNat i := by
 unfold furR
 split
 ·exact (furS_far ho _ _ (by omega) (by omega) (by omega)).symm
 ·rfl
theorem c66 {c : CodeS} (hc : Okay c) (hsig : sigsBad c = false) {i : Nat} (hi : i < c.routs.2.length) (hp : ∀ k,k < i → headBad c k = false) (σ : St) : Ret W 66 [pvCode c,.int .i64 i] σ (.int .i64 (routE c i)) := by
 refine ret_of fun R hR => ?_
 rw [fn66_eq]
 unfold fn66
 have fin : ∀ n : Int,routE c i = n → weakW σ (.int .i64 n) σ fun v σ => R (.ret v) σ := fun n hb => by
  rw [hb] at hR
  exact weakW_keep hR
 clear hR
 have hrl := hc.routs
 have hix : vIndex 9 (pvSl pvRout c.routs) (.int .i64 i) = some (.eptr (pvRout (rAt c i)) 0) := idxI encRout zRout (by omega) (by unfold len; omega)
 simp only [code_parts,hix,encRout.part,put_rout,rout_parts,sl_len,zz,Nat.reduceEqDiff]
 refine (c75 _ _ _).callB ?_
 simp only [zz,Nat.reduceEqDiff]
 refine orG (!inS (rAt c i).frame (len c.maps)) (fun _ J hJ => ?_) ?_
 ·refine (c75 _ _ _).callB ?_
  simp only [zz,Nat.reduceEqDiff]
  exact hJ _ rfl
 refine orAndG ((i : Int) == 0) (!((rAt c i).outer == -1)) (fun _ J hJ => ?_) (fun _ _ y J hJ => ?_) ?_
 ·exact hJ _ rfl
 ·exact hJ _ rfl
 refine orAndG (decide ((i : Int) > 0)) (!inS (rAt c i).outer i) (fun _ J hJ => ?_) (fun _ _ y J hJ => ?_) ?_
 ·exact hJ _ rfl
 ·refine (c75 _ _ _).callB ?_
  simp only [zz,Nat.reduceEqDiff]
  exact hJ _ rfl
 refine condB (fun hb => ?_) (fun hh => ?_)
 ·refine fin _ ?_
  have : headBad c i = true := hb
  simp only [routE,this,if_true]
 have hh' : headBad c i = false := hh
 have ho : OutOk c i := outOk_of fun k hk => by
  rcases Nat.lt_or_eq_of_le hk with hk | rfl
  ·exact hp k hk
  ·exact hh'
 refine condB (fun he => ?_) (fun he => ?_)
 ·refine fin _ ?_
  simp only [beq_iff_eq] at he
  simp only [routE,hh',Bool.false_eq_true,if_false,he,if_true]
 simp only [beq_eq_false_iff_ne,ne_eq] at he
 refine CutW_by (fun x τ => x 1 = .int .i64 i ∧ x 6 = .int .i64 (fromS c i) ∧ x 2 = pvCode c ∧ x 5 = pvRout (rAt c i) ∧ τ = σ) (fun x τ hx => ?_) ?_
 case refine_2 =>
  refine condB (fun hb => ?_) (fun hb => ?_)
  ·simp only [decide_eq_true_eq] at hb
   rw [vBin_sub _ (by omega) (by omega)]
   have hix1 : vIndex 9 (pvSl pvRout c.routs) (.int .i64 ((i : Int) - 1)) = some (.eptr (pvRout (rAt c (i - 1 : Nat))) 0) := by
    rw [show (i : Int) - 1 = ((i - 1 : Nat) : Int) by omega]
    exact idxI encRout zRout (by omega) (by unfold len; omega)
   simp only [hix1,fldE,rout_parts,zz,Nat.reduceEqDiff,Nat.reduceAdd]
   refine ⟨trivial,?_,trivial,trivial,trivial⟩
   simp only [fromS,if_pos hb]
  ·simp only [decide_eq_false_iff_not] at hb
   refine ⟨rfl,?_,rfl,rfl,rfl⟩
   simp only [fromS,if_neg hb]
   rfl
 obtain ⟨h1,h6,h2,h5,rfl⟩ := hx
 simp only [h1,h6,h2,h5,code_parts,rout_parts,sl_len,zz,Nat.reduceEqDiff]
 clear h1 h6 h2 h5 x
 refine orG (decide ((rAt c i).to ≤ (rAt c i).fr)) (fun _ J hJ => ?_) ?_
 ·exact hJ _ rfl
 refine orAndG ((i : Int) == len c.routs - 1) (!((rAt c i).to == len c.insts)) (fun _ J hJ => ?_) (fun _ _ y J hJ => ?_) ?_
 ·rw [vBin_sub _ (by unfold len; omega) (by unfold len; omega)]
  simp only [zz,Nat.reduceEqDiff]
  exact hJ _ rfl
 ·exact hJ _ rfl
 refine condB (fun hb => ?_) (fun hb => ?_)
 ·refine fin _ ?_
  have : orderBad c i = true := hb
  simp only [routE,hh',Bool.false_eq_true,if_false,he,if_true,this]
 have hob : orderBad c i = false := hb
 clear hb
 have hhc := hh'
 simp only [headBad,Bool.or_eq_false_iff,Bool.not_eq_false',inS,Bool.and_eq_true,decide_eq_true_eq] at hhc
 obtain ⟨⟨⟨⟨hs0,hs1⟩,hf0,hf1⟩,-⟩,hout⟩ := hhc
 have hsg : inS (sAt c (rAt c i).sig).1 (len c.maps) = true ∧ inS (sAt c (rAt c i).sig).2 (len c.maps) = true := by
  have hm : sAt c (rAt c i).sig ∈ c.sigs.2 := by
   have hn : (rAt c i).sig.toNat < c.sigs.2.length := by unfold len at hs1; omega
   simp [sAt,atI,List.getD_eq_getElem?_getD,hn]
  have := List.any_eq_false.1 hsig _ hm
  simpa using this
 obtain ⟨hsg1,hsg2⟩ := hsg
 simp only [inS,Bool.and_eq_true,decide_eq_true_eq] at hsg1 hsg2
 have ix1 : vIndex 2 (pvSl pvSig c.sigs) (.int .i64 (rAt c i).sig) = some (.eptr (pvSig (sAt c (rAt c i).sig)) 0) := idxI encSig (0,0) hs0 hs1
 have ix2 : vIndex 1 (pvSl pvMap c.maps) (.int .i64 (sAt c (rAt c i).sig).2) = some (.eptr (pvMap (mAt c (sAt c (rAt c i).sig).2)) 0) := idxI encMap (.nil,[]) hsg2.1 hsg2.2
 have ix3 : vIndex 1 (pvSl pvMap c.maps) (.int .i64 (sAt c (rAt c i).sig).1) = some (.eptr (pvMap (mAt c (sAt c (rAt c i).sig).1)) 0) := idxI encMap (.nil,[]) hsg1.1 hsg1.2
 have ix4 : vIndex 1 (pvSl pvMap c.maps) (.int .i64 (rAt c i).frame) = some (.eptr (pvMap (mAt c (rAt c i).frame)) 0) := idxI encMap (.nil,[]) hf0 hf1
 have hml : ∀ k : Int,(mAt c k).2.length ≤ 1048576 := fun k => by
  unfold mAt atI
  rw [List.getD_eq_getElem?_getD]
  cases hk : c.maps.2[k.toNat]? with
  | none => simp
  | some m => exact hc.slots m (List.mem_of_getElem? hk)
 refine (c124 hc hsig hi hh' _).callB ?_
 simp only [zz,Nat.reduceEqDiff]
 refine condB (fun hb => ?_) (fun hb => ?_)
 ·refine fin _ ?_
  have : shapeBad c i = true := by simpa using hb
  simp only [routE,hh',Bool.false_eq_true,if_false,he,if_true,hob,this]
 have hsb : shapeBad c i = false := by simpa using hb
 clear hb
 simp only [ix1,ix2,ix3,ix4,encSig.part,sig_parts,rout_parts,fldE,map_part,sl_len,zz,Nat.reduceEqDiff,Nat.reduceAdd]
 have hrg : (rAt c i).ranges.2.length ≤ 1048576 := by
  have hm : rAt c i ∈ c.routs.2 := by
   simp [rAt,atI,List.getD_eq_getElem?_getD,hi]
  exact hc.ranges _ hm
 refine CutW_by (fun x τ' => x 1 = .int .i64 i ∧ x 2 = pvCode c ∧ x 5 = pvRout (rAt c i) ∧ τ' = τ ∧ rangesE c i = 0) (fun x τ' hx => ?_) ?_
 case refine_2 =>
  refine Lfp_first (rAt c i).ranges.2.length (fun k => rangeE (resL c i).length (frmL c i).length k ((rAt c i).ranges.2.getD k zRange))
   (fun j => lookP [(1,.int .i64 i),(7,.int .i64 (frmL c i).length),(8,.int .i64 (resL c i).length),(9,.int .i64 j),(2,pvCode c),(5,pvRout (rAt c i))]) _ rfl (fun hall Φ => ?_) (fun Φ j hj hpre hhit next => ?_)
  ·simp only [rout_parts,sl_len,not_lt_len,Nat.lt_irrefl,decide_false,zz,Nat.reduceEqDiff]
   exact ⟨trivial,trivial,trivial,trivial,firstE_zero hall⟩
  have hg : (rAt c i).ranges.2[j]? = some ((rAt c i).ranges.2.getD j zRange) := by simp [List.getD_eq_getElem?_getD,hj]
  have hre : ∀ n : Int,n ≠ 0 → rangeE (resL c i).length (frmL c i).length j ((rAt c i).ranges.2.getD j zRange) = n → routE c i = n := fun n hn hr => by
   have h1 : rangesE c i = n := by
    rw [← hr]
    exact hhit (by rw [hr]; exact hn)
   simp only [routE,hh',Bool.false_eq_true,if_false,he,hob,hsb,h1]
   rw [if_pos hn]
  generalize (rAt c i).ranges.2.getD j zRange = g at hg hre next
  simp only [rout_parts,sl_len,lt_len hj,hj,decide_true,sl_idx encRange hg,range_parts,put_range,List.length_map,zz,Nat.reduceEqDiff]
  refine andG (!(g.outer == -1)) (fun _ J hJ => ?_) ?_
  ·exact hJ _ rfl
  refine orAndG (decide ((j : Int) > 0)) (!inS g.outer j) (fun _ J hJ => ?_) (fun _ _ y J hJ => ?_) ?_
  ·exact hJ _ rfl
  ·refine (c75 _ _ _).callB ?_
   simp only [zz,Nat.reduceEqDiff]
   exact hJ _ rfl
  refine condB (fun hb => ?_) (fun hb1 => ?_)
  ·refine fin _ (hre 10 (by omega) ?_)
   simp only [rangeE,hb,if_true]
  refine orG (decide (g.fr > g.to)) (fun _ J hJ => ?_) ?_
  ·exact hJ _ rfl
  refine orG (decide (g.to > (frmL c i).length)) (fun _ J hJ => ?_) ?_
  ·exact hJ _ rfl
  refine condB (fun hb => ?_) (fun hb => ?_)
  ·refine fin _ (hre 11 (by omega) ?_)
   simp only [rangeE,hb1,hb,Bool.false_eq_true,if_false,if_true]
  ·rw [vBin_add _ (by omega) (by omega)]
   simp only [zz,Nat.reduceEqDiff]
   refine next ?_
   simp only [rangeE,hb1,hb,Bool.false_eq_true,if_false]
 obtain ⟨h1,h2,h5,rfl,hrr⟩ := hx
 simp only [h1,h2,h5,code_parts,rout_parts,sl_len,zz,Nat.reduceEqDiff]
 refine andG (!((rAt c i).within == -1)) (fun _ J hJ => ?_) ?_
 ·exact hJ _ rfl
 refine orAndG (decide ((i : Int) > 0)) (!inS (rAt c i).within (len (rAt c (rAt c i).outer).ranges)) (fun _ J hJ => ?_) (fun _ hA y J hJ => ?_) ?_
 ·exact hJ _ rfl
 ·simp only [hA,Bool.true_and,Bool.not_eq_false',Bool.and_eq_true,decide_eq_true_eq] at hout
  have hix5 : vIndex 9 (pvSl pvRout c.routs) (.int .i64 (rAt c i).outer) = some (.eptr (pvRout (rAt c (rAt c i).outer)) 0) := idxI encRout zRout hout.1 (by unfold len; omega)
  simp only [hix5,fldE,rout_parts,sl_len,zz,Nat.reduceEqDiff,Nat.reduceAdd]
  refine (c75 _ _ _).callB ?_
  simp only [zz,Nat.reduceEqDiff]
  exact hJ _ rfl
 refine orG (decide ((rAt c i).level < 0)) (fun _ J hJ => ?_) ?_
 ·exact hJ _ rfl
 refine orAndG ((rAt c i).level == 0) (!((rAt c i).needs == 0)) (fun _ J hJ => ?_) (fun _ hA y J hJ => ?_) ?_
 ·exact hJ _ rfl
 ·exact hJ _ rfl
 refine condB (fun hb => ?_) (fun hb => ?_)
 ·refine fin _ ?_
  have : backBad c i = true := hb
  simp only [routE,hh',Bool.false_eq_true,if_false,he,hob,hsb,hrr,this,ne_eq,not_true,if_true]
 have hbb : backBad c i = false := hb
 clear hb
 have hre : ∀ n : Int,(if (rAt c i).level > 0 then (if needBad c i then (11 : Int) else 0) else 0) = n → routE c i = n := fun n h => by
  rw [← h]
  simp only [routE,hh',Bool.false_eq_true,if_false,he,hob,hsb,hrr,hbb,ne_eq,not_true]
 refine CutW_by (fun x τ => τ = τ' ∧ routE c i = 0) (fun x τ hx => ?_) ?_
 ·obtain ⟨rfl,hz⟩ := hx
  exact fin _ hz
 refine condB (fun hl => ?_) (fun hl => ?_)
 ·simp only [decide_eq_true_eq] at hl
  rw [if_pos hl] at hre
  refine (c125 hc ho (by unfold len; omega) (by omega) (by omega) _).callB ?_
  rw [furR_eq ho (by unfold len; omega) (by omega)]
  unfold needBad at hre
  generalize hfu : furS c (rAt c i).level.toNat i = f at hre
  have hfb := furS_bound ho (rAt c i).level.toNat i (by omega) (by omega)
  rw [hfu] at hfb
  simp only [zz,Nat.reduceEqDiff]
  refine orG (!inS (rAt c i).needs (len (rAt c f).ranges)) (fun hf J hJ => ?_) ?_
  ·simp only [decide_eq_false_iff_not] at hf
   have hix6 : vIndex 9 (pvSl pvRout c.routs) (.int .i64 f) = some (.eptr (pvRout (rAt c f)) 0) := idxI encRout zRout (by omega) (by unfold len; omega)
   simp only [hix6,fldE,rout_parts,sl_len,zz,Nat.reduceEqDiff,Nat.reduceAdd]
   refine (c75 _ _ _).callB ?_
   simp only [zz,Nat.reduceEqDiff]
   exact hJ _ rfl
  refine condB (fun hb => ?_) (fun hb => ?_)
  ·refine fin _ (hre 11 ?_)
   rw [hb,if_pos rfl]
  ·refine ⟨rfl,hre 0 ?_⟩
   rw [hb,if_neg (by simp)]
 ·simp only [decide_eq_false_iff_not] at hl
  refine ⟨rfl,hre 0 ?_⟩
  rw [if_neg hl]
end Go.Proofs.YtgghfcchanilpaaGreatDoor

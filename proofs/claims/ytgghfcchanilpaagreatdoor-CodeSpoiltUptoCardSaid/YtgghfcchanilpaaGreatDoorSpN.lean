import Derived.Test.YtgghfcchanilpaaGreatDoorSpM
set_option linter.unusedVariables false
set_option linter.unusedSimpArgs false
namespace Go.Proofs.YtgghfcchanilpaaGreatDoor
open Go Go.Abs
theorem orAndG {b : Bool} {k1 k2 k3 : Nat} {op1 : ((Nat → EV) → St → Prop) → Prop} {op2 : (Nat → EV) → St → ((Nat → EV) → St → Prop) → Prop} {σ : St} {C : PV → St → Prop} (A B : Bool)
  (h1 : b = false → ∀ J : (Nat → EV) → St → Prop,(∀ y,(y k1).pv = .bool A → J y σ) → op1 J)
  (h2 : b = false → A = true → ∀ (y : Nat → EV) (J : (Nat → EV) → St → Prop),(∀ y,(y k2).pv = .bool B → J y σ) → op2 y σ J)
  (h : C (.bool (b || (A && B))) σ) :
  guardG False (.bool b) false op1 σ (fun y σ1 => guardG False (y k1).pv true (op2 y σ1) σ1 (fun y2 σ2 =>
   guardG False (.bool b) false (fun J => bindO False (vPick (y k1).pv (y2 k2).pv (.bool false)) fun v => J (lookE [(k3,.v v)]) σ2) σ2 (fun y3 σ3 =>
    bindO False (vPick (.bool b) (.bool true) (y3 k3).pv) fun v => C v σ3))) := by
 cases b with
 | true => exact h
 | false =>
  show op1 _
  refine h1 rfl _ fun y hy => ?_
  show guardG False (y k1).pv true (op2 y σ) σ _
  rw [hy]
  cases A with
  | false =>
   simp only [zz,Nat.reduceEqDiff]
   exact h
  | true =>
   show op2 y σ _
   refine h2 rfl rfl y _ fun y2 hy2 => ?_
   rw [hy2]
   simp only [zz,Nat.reduceEqDiff]
   exact h
theorem put_rout (r : RoutS) : vPut 9 (.agg [(.int .i64 0),(.int .i64 0),(.int .i64 0),(.int .i64 0),(.int .i64 0),(.int .i64 0),(.int .i64 0),(.int .i64 0),(.list .nil [])]) 0 (pvRout r) = some (pvRout r) := rfl
theorem put_range (r : RangeS) : vPut 3 (.agg [(.int .i64 0),(.int .i64 0),(.int .i64 0)]) 0 (pvRange r) = some (pvRange r) := rfl
theorem range_parts (r : RangeS) : vPart false 1 (pvRange r) 0 = some (.int .i64 r.outer) ∧ vPart false 1 (pvRange r) 1 = some (.int .i64 r.fr) ∧ vPart false 1 (pvRange r) 2 = some (.int .i64 r.to) ∧ vPart true 3 (pvRange r) 0 = some (pvRange r) := ⟨rfl,rfl,rfl,rfl⟩
theorem b2_slots (A B : Sl SlotS) : vBuildSl 1 (List.replicate 2 (.list .nil [])) [(0,pvSl pvSlot A),(1,pvSl pvSlot B)] = some ([A,B].map (pvSl pvSlot)) := rfl
theorem Lfp_first {n : St} {F : ((Nat → PV) → St → Prop) → (Nat → PV) → St → Prop} (N : Nat) (e : Nat → Int) (mk : Nat → Nat → PV) (σ : St) {x0 : Nat → PV} (h0 : x0 = mk 0)
  (hend : (∀ k,k < N → e k = 0) → ∀ Φ : (Nat → PV) → St → Prop,F Φ (mk N) σ)
  (step : ∀ (Φ : (Nat → PV) → St → Prop) (j : Nat),j < N → (∀ k,k < j → e k = 0) → (e j ≠ 0 → firstE e N = e j) → (e j = 0 → Φ (mk (j + 1)) σ) → F Φ (mk j) σ) : Lfp n F x0 σ := by
 refine Lfp_up N (fun j x σ' => x = mk j ∧ σ' = σ ∧ ∀ k,k < j → e k = 0) ?_ ⟨h0,rfl,fun k hk => by omega⟩
 rintro Φ j x σ' hj ⟨rfl,rfl,hp⟩ next
 by_cases hlt : j < N
 ·refine step Φ j hlt hp (fun h => firstE_at hp h hlt) fun hb => ?_
  refine next _ _ hlt ⟨rfl,rfl,fun k hk => ?_⟩
  rcases Nat.lt_succ_iff_lt_or_eq.1 hk with hk | rfl
  ·exact hp k hk
  ·exact hb
 ·obtain rfl : j = N := by omega
  exact hend hp Φ
theorem c116 {c : CodeS} (hc : Okay c) (hsig : sigsBad c = false) (a b : Int) {i : Nat} (hi : i < c.routs.2.length) (hp : ∀ k,k < i → headBad c k = false) (hlv : (rAt c i).level < 9223372036854775808) (σ : St) : Ret W 116 [pvChk c a b,.int .i64 i] σ (.int .i64 (routE c i)) := by
 refine ret_of fun R hR => ?_
 rw [fn116_eq]
 delta fn116 bF pF gF kF nI nL
 have fin : ∀ n : Int,routE c i = n → weakW σ (.int .i64 n) σ fun v σ => R (.ret v) σ := fun n hb => by
  rw [hb] at hR
  exact weakW_keep hR
 clear hR
 have hrl := hc.routs
 have hix : vIndex 9 (pvSl pvRout c.routs) (.int .i64 i) = some (.eptr (pvRout (rAt c i)) 0) := idxI encRout zRout (by omega) (by unfold len; omega)
 simp only [chk_parts,hix,encRout.part,put_rout,sl_len,zz,Nat.reduceEqDiff]
 refine CutW_by (fun x τ => x 1 = .int .i64 i ∧ x 6 = .int .i64 (fromS c i) ∧ x 2 = pvChk c a b ∧ x 5 = pvRout (rAt c i) ∧ τ = σ) (fun x τ hx => ?_) ?_
 case refine_2 =>
  refine condB (fun hb => ?_) (fun hb => ?_)
  ·simp only [decide_eq_true_eq] at hb
   rw [vBin_sub _ (by omega) (by omega)]
   have hix1 : vIndex 9 (pvSl pvRout c.routs) (.int .i64 ((i : Int) - 1)) = some (.eptr (pvRout (rAt c (i - 1 : Nat))) 0) := by
    rw [show (i : Int) - 1 = ((i - 1 : Nat) : Int) by omega]
    exact idxI encRout zRout (by omega) (by unfold len; omega)
   simp only [hix1,fldE,rout_parts,zz,Nat.reduceEqDiff,Nat.reduceAdd]
   refine ⟨trivial,?_,trivial,trivial,trivial⟩
   simp only [fromS,if_pos hb]
  ·simp only [decide_eq_false_iff_not] at hb
   refine ⟨rfl,?_,rfl,rfl,rfl⟩
   simp only [fromS,if_neg hb]
   rfl
 obtain ⟨h1,h6,h2,h5,rfl⟩ := hx
 simp only [h1,h6,h2,h5,chk_parts,rout_parts,sl_len,zz,Nat.reduceEqDiff]
 clear h1 h6 h2 h5 x
 refine (c42 _ _ _).callB ?_
 simp only [zz,Nat.reduceEqDiff]
 refine orG (!inS (rAt c i).frame (len c.maps)) (fun _ J hJ => ?_) ?_
 ·refine (c42 _ _ _).callB ?_
  simp only [zz,Nat.reduceEqDiff]
  exact hJ _ rfl
 refine orAndG ((i : Int) == 0) (!((rAt c i).outer == -1)) (fun _ J hJ => ?_) (fun _ _ y J hJ => ?_) ?_
 ·exact hJ _ rfl
 ·exact hJ _ rfl
 refine orAndG (decide ((i : Int) > 0)) (!inS (rAt c i).outer i) (fun _ J hJ => ?_) (fun _ _ y J hJ => ?_) ?_
 ·exact hJ _ rfl
 ·refine (c42 _ _ _).callB ?_
  simp only [zz,Nat.reduceEqDiff]
  exact hJ _ rfl
 refine condB (fun hb => ?_) (fun hh => ?_)
 ·refine fin _ ?_
  have : headBad c i = true := hb
  simp only [routE,this,if_true]
 have hh' : headBad c i = false := hh
 have ho : OutOk c i := outOk_of fun k hk => by
  rcases Nat.lt_or_eq_of_le hk with hk | rfl
  ·exact hp k hk
  ·exact hh'
 refine condB (fun he => ?_) (fun he => ?_)
 ·refine fin _ ?_
  simp only [beq_iff_eq] at he
  simp only [routE,hh',Bool.false_eq_true,if_false,he,if_true]
 simp only [beq_eq_false_iff_ne,ne_eq] at he
 refine orG (decide ((rAt c i).to ≤ (rAt c i).fr)) (fun _ J hJ => ?_) ?_
 ·exact hJ _ rfl
 refine orAndG ((i : Int) == len c.routs - 1) (!((rAt c i).to == len c.insts)) (fun _ J hJ => ?_) (fun _ _ y J hJ => ?_) ?_
 ·rw [vBin_sub _ (by unfold len; omega) (by unfold len; omega)]
  simp only [zz,Nat.reduceEqDiff]
  exact hJ _ rfl
 ·exact hJ _ rfl
 refine condB (fun hb => ?_) (fun hb => ?_)
 ·refine fin _ ?_
  have : orderBad c i = true := hb
  simp only [routE,hh',Bool.false_eq_true,if_false,he,if_true,this]
 have hob : orderBad c i = false := hb
 clear hb hh
 have hhc := hh'
 simp only [headBad,Bool.or_eq_false_iff,Bool.not_eq_false',inS,Bool.and_eq_true,decide_eq_true_eq] at hhc
 obtain ⟨⟨⟨⟨hs0,hs1⟩,hf0,hf1⟩,-⟩,hout⟩ := hhc
 have hsg : inS (sAt c (rAt c i).sig).1 (len c.maps) = true ∧ inS (sAt c (rAt c i).sig).2 (len c.maps) = true := by
  have hm : sAt c (rAt c i).sig ∈ c.sigs.2 := by
   have hn : (rAt c i).sig.toNat < c.sigs.2.length := by unfold len at hs1; omega
   simp [sAt,atI,List.getD_eq_getElem?_getD,hn]
  have := List.any_eq_false.1 hsig _ hm
  simpa using this
 obtain ⟨hsg1,hsg2⟩ := hsg
 simp only [inS,Bool.and_eq_true,decide_eq_true_eq] at hsg1 hsg2
 have ix1 : vIndex 2 (pvSl pvSig c.sigs) (.int .i64 (rAt c i).sig) = some (.eptr (pvSig (sAt c (rAt c i).sig)) 0) := idxI encSig (0,0) hs0 hs1
 have ix2 : vIndex 1 (pvSl pvMap c.maps) (.int .i64 (sAt c (rAt c i).sig).2) = some (.eptr (pvMap (mAt c (sAt c (rAt c i).sig).2)) 0) := idxI encMap (.nil,[]) hsg2.1 hsg2.2
 have ix3 : vIndex 1 (pvSl pvMap c.maps) (.int .i64 (sAt c (rAt c i).sig).1) = some (.eptr (pvMap (mAt c (sAt c (rAt c i).sig).1)) 0) := idxI encMap (.nil,[]) hsg1.1 hsg1.2
 have ix4 : vIndex 1 (pvSl pvMap c.maps) (.int .i64 (rAt c i).frame) = some (.eptr (pvMap (mAt c (rAt c i).frame)) 0) := idxI encMap (.nil,[]) hf0 hf1
 have hml : ∀ k : Int,(mAt c k).2.length ≤ 1048576 := fun k => by
  unfold mAt atI
  rw [List.getD_eq_getElem?_getD]
  cases hk : c.maps.2[k.toNat]? with
  | none => simp
  | some m => exact hc.slots m (List.mem_of_getElem? hk)
 simp only [ix1,ix2,ix3,ix4,encSig.part,sig_parts,fldE,map_part,b2_slots,zz,Nat.reduceEqDiff,Nat.reduceAdd]
 refine (c225 (by simp) (by
  intro m hm
  simp at hm
  rcases hm with rfl | rfl <;> exact hml _) _).callB ?_
 have hcat : catD [mAt c (sAt c (rAt c i).sig).2,mAt c (sAt c (rAt c i).sig).1] = resL c i ++ parL c i := by
  simp [catD,resL,parL]
 have hres : (resL c i).length ≤ 1048576 := hml _
 have hpar : (parL c i).length ≤ 1048576 := hml _
 have hfrm : (frmL c i).length ≤ 1048576 := hml _
 rw [hcat]
 have hF : (resL c i ++ parL c i).length ≤ 2097152 := by simp; omega
 have hsh : shapeBad c i = (((i : Int) == 0 && decide (((resL c i ++ parL c i).length : Int) > 0)) || decide ((frmL c i).length < (resL c i ++ parL c i).length) || !decide ((frmL c i).take (resL c i ++ parL c i).length = resL c i ++ parL c i)) := rfl
 generalize resL c i ++ parL c i = F at hF hsh
 obtain ⟨kF,hkF⟩ := growV_list (F.map pvSlot)
 have hfr : pvSl pvSlot (mAt c (rAt c i).frame) = .list (mAt c (rAt c i).frame).1 ((frmL c i).map pvSlot) := rfl
 simp only [hkF,hfr,List.length_map,zz,Nat.reduceEqDiff]
 refine andG (decide ((F.length : Int) > 0)) (fun _ J hJ => ?_) ?_
 ·exact hJ _ rfl
 refine orG (decide ((frmL c i).length < F.length)) (fun _ J hJ => ?_) ?_
 ·exact hJ _ rfl
 refine orG (!decide ((frmL c i).take F.length = F)) (fun hn J hJ => ?_) ?_
 ·simp only [Bool.or_eq_false_iff,decide_eq_false_iff_not] at hn
  have hle : F.length ≤ (frmL c i).length := by omega
  have hsz : headSized 5 ((frmL c i).map pvSlot) = true := headSized_of fun x hx => by
   obtain ⟨s,_,rfl⟩ := List.mem_map.1 hx
   exact ⟨_,rfl,rfl⟩
  have hsub : vSubSl 5 (.list (mAt c (rAt c i).frame).1 ((frmL c i).map pvSlot)) none (some (.int .i64 F.length)) = some (.list ((mAt c (rAt c i).frame).1.sub (F.length == (frmL c i).length)) (((frmL c i).take F.length).map pvSlot)) := by
   simp [vSubSl,bound,hsz,hle,List.map_take]
  simp only [hsub,zz,Nat.reduceEqDiff]
  refine (c226 (by simp; omega) _).callB ?_
  simp only [zz,Nat.reduceEqDiff]
  exact hJ _ rfl
 refine condB (fun hb => ?_) (fun hb => ?_)
 ·refine fin _ ?_
  have : shapeBad c i = true := by rw [hsh]; exact hb
  simp only [routE,hh',Bool.false_eq_true,if_false,he,if_true,hob,this]
 have hsb : shapeBad c i = false := by rw [hsh]; exact hb
 clear hb hsh
 have hrg : (rAt c i).ranges.2.length ≤ 1048576 := by
  have hm : rAt c i ∈ c.routs.2 := by
   simp [rAt,atI,List.getD_eq_getElem?_getD,hi]
  exact hc.ranges _ hm
 try simp only [rout_parts,sl_len,zz,Nat.reduceEqDiff]
 refine CutW_by (fun x τ' => x 1 = .int .i64 i ∧ x 2 = pvChk c a b ∧ x 5 = pvRout (rAt c i) ∧ τ' = τ ∧ rangesE c i = 0) (fun x τ' hx => ?_) ?_
 case refine_2 =>
  have hresv : pvSl pvSlot (mAt c (sAt c (rAt c i).sig).2) = .list (mAt c (sAt c (rAt c i).sig).2).1 ((resL c i).map pvSlot) := rfl
  simp only [hresv]
  generalize (mAt c (sAt c (rAt c i).sig).2).1 = kR
  generalize (mAt c (rAt c i).frame).1 = kM
  refine Lfp_first (rAt c i).ranges.2.length (fun k => rangeE (resL c i).length (frmL c i).length k ((rAt c i).ranges.2.getD k zRange))
   (fun j => lookP [(1,.int .i64 i),(8,.list kR ((resL c i).map pvSlot)),(10,.list kM ((frmL c i).map pvSlot)),(165,pvSl pvRange (rAt c i).ranges),(166,.int .i64 (len (rAt c i).ranges)),(167,.int .i64 j),(2,pvChk c a b),(5,pvRout (rAt c i))]) _ rfl (fun hall Φ => ?_) (fun Φ j hj hpre hhit next => ?_)
  ·simp only [not_lt_len,Nat.lt_irrefl,decide_false,zz,Nat.reduceEqDiff]
   exact ⟨trivial,trivial,trivial,trivial,firstE_zero hall⟩
  have hg : (rAt c i).ranges.2[j]? = some ((rAt c i).ranges.2.getD j zRange) := by simp [List.getD_eq_getElem?_getD,hj]
  have hre : ∀ n : Int,n ≠ 0 → rangeE (resL c i).length (frmL c i).length j ((rAt c i).ranges.2.getD j zRange) = n → routE c i = n := fun n hn hr => by
   have h1 : rangesE c i = n := by
    rw [← hr]
    exact hhit (by rw [hr]; exact hn)
   simp only [routE,hh',Bool.false_eq_true,if_false,he,hob,hsb,h1]
   rw [if_pos hn]
  generalize (rAt c i).ranges.2.getD j zRange = g at hg hre next
  simp only [lt_len hj,hj,decide_true,sl_idx encRange hg,range_parts,put_range,List.length_map,zz,Nat.reduceEqDiff]
  refine andG (!(g.outer == -1)) (fun _ J hJ => ?_) ?_
  ·exact hJ _ rfl
  refine orAndG (decide ((j : Int) > 0)) (!inS g.outer j) (fun _ J hJ => ?_) (fun _ _ y J hJ => ?_) ?_
  ·exact hJ _ rfl
  ·refine (c42 _ _ _).callB ?_
   simp only [zz,Nat.reduceEqDiff]
   exact hJ _ rfl
  refine condB (fun hb => ?_) (fun hb1 => ?_)
  ·refine fin _ (hre 10 (by omega) ?_)
   simp only [rangeE,hb,if_true]
  refine orG (decide (g.fr > g.to)) (fun _ J hJ => ?_) ?_
  ·exact hJ _ rfl
  refine orG (decide (g.to > (frmL c i).length)) (fun _ J hJ => ?_) ?_
  ·exact hJ _ rfl
  refine condB (fun hb => ?_) (fun hb => ?_)
  ·refine fin _ (hre 11 (by omega) ?_)
   simp only [rangeE,hb1,hb,Bool.false_eq_true,if_false,if_true]
  ·rw [vBin_add _ (by omega) (by omega)]
   simp only [zz,Nat.reduceEqDiff]
   refine next ?_
   simp only [rangeE,hb1,hb,Bool.false_eq_true,if_false]
 obtain ⟨h1,h2,h5,rfl,hrr⟩ := hx
 simp only [h1,h2,h5,chk_parts,rout_parts,sl_len,zz,Nat.reduceEqDiff]
 refine andG (!((rAt c i).within == -1)) (fun _ J hJ => ?_) ?_
 ·exact hJ _ rfl
 refine orAndG (decide ((i : Int) > 0)) (!inS (rAt c i).within (len (rAt c (rAt c i).outer).ranges)) (fun _ J hJ => ?_) (fun _ hA y J hJ => ?_) ?_
 ·exact hJ _ rfl
 ·simp only [hA,Bool.true_and,Bool.not_eq_false',Bool.and_eq_true,decide_eq_true_eq] at hout
  have hix5 : vIndex 9 (pvSl pvRout c.routs) (.int .i64 (rAt c i).outer) = some (.eptr (pvRout (rAt c (rAt c i).outer)) 0) := idxI encRout zRout hout.1 (by unfold len; omega)
  simp only [hix5,fldE,rout_parts,sl_len,zz,Nat.reduceEqDiff,Nat.reduceAdd]
  refine (c42 _ _ _).callB ?_
  simp only [zz,Nat.reduceEqDiff]
  exact hJ _ rfl
 refine orG (decide ((rAt c i).level < 0)) (fun _ J hJ => ?_) ?_
 ·exact hJ _ rfl
 refine orAndG ((rAt c i).level == 0) (!((rAt c i).needs == 0)) (fun _ J hJ => ?_) (fun _ hA y J hJ => ?_) ?_
 ·exact hJ _ rfl
 ·exact hJ _ rfl
 refine condB (fun hb => ?_) (fun hb => ?_)
 ·refine fin _ ?_
  have : backBad c i = true := hb
  simp only [routE,hh',Bool.false_eq_true,if_false,he,hob,hsb,hrr,this,ne_eq,not_true,if_true]
 have hbb : backBad c i = false := hb
 clear hb
 have hre : ∀ n : Int,(if (rAt c i).level > 0 then (if needBad c i then (11 : Int) else 0) else 0) = n → routE c i = n := fun n h => by
  rw [← h]
  simp only [routE,hh',Bool.false_eq_true,if_false,he,hob,hsb,hrr,hbb,ne_eq,not_true]
 refine CutW_by (fun x τ => τ = τ' ∧ routE c i = 0) (fun x τ hx => ?_) ?_
 ·obtain ⟨rfl,hz⟩ := hx
  exact fin _ hz
 refine condB (fun hl => ?_) (fun hl => ?_)
 ·simp only [decide_eq_true_eq] at hl
  rw [if_pos hl] at hre
  refine (c227 ho (by unfold len; omega) a b (by omega) (by omega) hlv _).callB ?_
  have hlt0 : ¬ (rAt c i).level < 0 := by omega
  unfold outerR
  rw [if_neg hlt0]
  unfold needBad at hre
  generalize hfu : furS c (rAt c i).level.toNat i = f at hre
  have hfb := furS_bound ho (rAt c i).level.toNat i (by omega) (by omega)
  rw [hfu] at hfb
  by_cases hf : f < 0
  ·simp only [hf,if_true,pvPair,zz,Nat.reduceEqDiff]
   refine fin _ (hre 11 ?_)
   simp only [hf,decide_true,Bool.true_or,if_true]
  ·have hix6 : vIndex 9 (pvSl pvRout c.routs) (.int .i64 f) = some (.eptr (pvRout (rAt c f)) 0) := idxI encRout zRout (by omega) (by unfold len; omega)
   simp only [hf,if_false,pvPair,hix6,fldE,rout_parts,sl_len,zz,Nat.reduceEqDiff,Nat.reduceAdd]
   refine (c42 _ _ _).callB ?_
   simp only [zz,Nat.reduceEqDiff]
   refine condB (fun hb => ?_) (fun hb => ?_)
   ·refine fin _ (hre 11 ?_)
    simp only [hb,Bool.or_true,if_true]
   ·refine ⟨trivial,hre 0 ?_⟩
    simp only [hf,hb,decide_false,Bool.or_false,Bool.false_eq_true,if_false]
 ·simp only [decide_eq_false_iff_not] at hl
  refine ⟨rfl,hre 0 ?_⟩
  rw [if_neg hl]
theorem headBad_of {c : CodeS} {k : Nat} (h : routE c k = 0) : headBad c k = false := by
 cases hb : headBad c k with
 | false => rfl
 | true =>
  simp only [routE,hb,if_true] at h
  omega
theorem c61 {c : CodeS} (hc : Okay c) (hsig : sigsBad c = false) (a b : Int) (hlv : ∀ k,(rAt c k).level < 9223372036854775808) (σ : St) : Ret W 61 [pvChk c a b] σ (.int .i64 (routsE c)) := by
 refine ret_of fun R hR => ?_
 rw [fn61_eq]
 delta fn61 bF pF kF nI
 have fin : ∀ n : Int,routsE c = n → weakW σ (.int .i64 n) σ fun v σ => R (.ret v) σ := fun n hb => by
  rw [hb] at hR
  exact weakW_keep hR
 clear hR
 have hrl := hc.routs
 simp only [chk_parts,sl_len,zz,Nat.reduceEqDiff]
 refine condB (fun he => ?_) (fun he => ?_)
 ·simp only [beq_iff_eq] at he
  refine fin _ ?_
  simp only [routsE,he,if_true]
 simp only [beq_eq_false_iff_ne,ne_eq] at he
 refine Lfp_first c.routs.2.length (routE c) (fun j => lookP [(13,.int .i64 (len c.routs)),(14,.int .i64 j),(1,pvChk c a b)]) _ rfl (fun hall Φ => ?_) (fun Φ j hj hpre hhit next => ?_)
 ·simp only [not_lt_len,Nat.lt_irrefl,decide_false,zz,Nat.reduceEqDiff]
  refine fin _ ?_
  simp only [routsE,he,if_false,firstE_zero hall]
 simp only [lt_len hj,hj,decide_true,chk_parts,zz,Nat.reduceEqDiff]
 refine (c116 hc hsig a b hj (fun k hk => headBad_of (hpre k hk)) (hlv _) _).callB ?_
 simp only [zz,Nat.reduceEqDiff]
 refine condB (fun hb => ?_) (fun hb => ?_)
 ·have hne : routE c j ≠ 0 := by simpa using hb
  refine fin _ ?_
  simp only [routsE,he,if_false,hhit hne]
 ·have h0 : routE c j = 0 := by simpa using hb
  rw [vBin_add _ (by omega) (by omega)]
  simp only [zz,Nat.reduceEqDiff]
  exact next h0
end Go.Proofs.YtgghfcchanilpaaGreatDoor

import Derived.Test.YteikomnahelckaaGreatDoorLyJ
set_option linter.unusedVariables false
set_option linter.unusedSimpArgs false
namespace Go.Proofs.YteikomnahelckaaGreatDoor
open Go Go.Abs
theorem lookP_free {σ : St} {D : Nat → Prop} : ∀ {L : List (Nat × PV)},(∀ e ∈ L,Free D e.2) → ∀ t,FrzD σ D (lookP L t) (lookP L t)
 | [],_,t => .base _ .any
 | (k,x) :: L,h,t => by
   simp only [lookP]
   split
   · exact .base _ (h (k,x) (by simp))
   · exact lookP_free (fun e he => h e (by simp [he])) t
theorem dropLast_take {α : Type} (l : List α) : l.dropLast = l.take (l.length - 1) := List.dropLast_eq_take
section
variable {σ0 σ : St} {l : Tbl} {p pm qm nm : Nat} {kt : LK} {tvs : List PV} {b1 b2 : Blk} {o : Option Nat} {v : PV} {gs : List PV}
theorem NL.setP (h : NL σ0 σ p pm qm nm kt tvs b1 b2 o v gs) (b1' : Blk) : NL σ0 (σ.set pm b1') p pm qm nm kt tvs b1' b2 o v gs := by
 obtain ⟨L,T⟩ := h.lay.setQ (QL := []) (QR := [(qm,b2),(nm,.map 0 [])]) (k' := b1')
 exact ⟨L,h.stp.trans T⟩
theorem NL.setU (h : NL σ0 σ p pm qm nm kt tvs b1 b2 o v gs) (b2' : Blk) : NL σ0 (σ.set qm b2') p pm qm nm kt tvs b1 b2' o v gs := by
 obtain ⟨L,T⟩ := h.lay.setQ (QL := [(pm,b1)]) (QR := [(nm,.map 0 [])]) (k' := b2')
 exact ⟨L,h.stp.trans T⟩
theorem NL.at1 (h : NL σ0 σ p pm qm nm kt tvs b1 b2 o v gs) : σ[pm]? = some b1 := h.lay.qs (pm,b1) (by simp)
theorem NL.at2 (h : NL σ0 σ p pm qm nm kt tvs b1 b2 o v gs) : σ[qm]? = some b2 := h.lay.qs (qm,b2) (by simp)
theorem NL.at3 (h : NL σ0 σ p pm qm nm kt tvs b1 b2 o v gs) : σ[nm]? = some (.map 0 []) := h.lay.qs (nm,.map 0 []) (by simp)
theorem NL.isG (h : NL σ0 σ p pm qm nm kt tvs b1 b2 o v gs) : IsG σ ⟨o,2,v,gs⟩ := h.lay.sl _ (by simp)
theorem NL.ap (h : NL σ0 σ p pm qm nm kt tvs b1 b2 o v gs) : (o ≠ some p ∧ o ≠ some pm ∧ o ≠ some qm ∧ o ≠ some nm) ∧ p ≠ nm ∧ p ≠ pm ∧ p ≠ qm ∧ pm ≠ nm ∧ qm ≠ nm := by
 have := h.lay.nod
 unfold owL ids at this
 cases o with
 | none =>
  simp at this
  refine ⟨by simp,?_⟩
  omega
 | some b =>
  simp at this
  refine ⟨by simp; omega,?_⟩
  omega
theorem pre_Pre {σ σ' : St} (h : σ <+: σ') : Pre σ σ' := by
 obtain ⟨t,rfl⟩ := h
 exact ⟨t,rfl⟩
set_option maxRecDepth 100000 in
theorem c10 {k : LK} (hk : k = .nil → l = []) (hl : l.length ≤ 1048576) (hb : ∀ m ∈ l,Bd m) (hnm : ∀ m ∈ l,NilM m) {R : Res → St → Prop}
  (h1 : ∀ e σ',(e = 2 ∧ ¬ OkT l ∨ e = 3 ∧ OkT l ∧ LimT l) → Stp [] σ [] σ' → R (.ret (.tuple [.nilptr,.int .i64 e])) σ')
  (h2 : ∀ d p A uo so x σ',¬ LimT l → Env l d → MS l d σ' p A uo so x → A.T = dfs (chR (rwT l)) (4 * l.length) [] ((List.range l.length).map fun m => .node (repT l m)) → Grown (rwT l) ⟨[],[],[],[]⟩ A → Stp [] σ (ow d p x) σ' →
   R (.ret (.tuple [.ptr p 0 0 0,.int .i64 0])) σ') :
  W 10 [.list k (l.map pvMode)] σ R := by
 refine callW_fold ?_
 rw [fn10_eq]
 delta fn10 bF pF lF sF kF nI nL mF
 refine (c27 (by omega) hb σ).callB fun e he => ?_
 simp only [zz,Nat.reduceEqDiff]
 refine condB (fun hne => ?_) (fun hne => ?_)
 ·refine weakW_keep (h1 2 σ (.inl ⟨rfl,fun hok => ?_⟩) (Stp.refl _ _))
  rw [he.2 hok] at hne
  cases hne
 have ok : OkT l := he.1 (by simpa using hne)
 have few := ok.few
 refine c28 hk hl hb hnm fun kt tvs htab => ?_
 show newMapW σ _
 have hbd : ∀ a b c : Nat,vBuild [(.list .nil []),(.list .nil []),.nilmap,.nilmap,.nilmap,(.list .nil []),(.list .nil []),(.list .nil []),(.list .nil []),(.list .nil [])] [(0,1,.list kt tvs),(2,1,.mref a),(3,1,.mref b),(4,1,.mref c)] =
   some [.list kt tvs,nilV,.mref a,.mref b,.mref c,nilV,nilV,nilV,nilV,nilV] := fun a b c => rfl
 have hbx : ∀ a b c : Nat,opC.vBoxAny (.agg [.list kt tvs,nilV,.mref a,.mref b,.mref c,nilV,nilV,nilV,nilV,nilV]) = some (10,.agg [.list kt tvs,nilV,.mref a,.mref b,.mref c,nilV,nilV,nilV,nilV,nilV]) := fun a b c => rfl
 have h10 : (0 < 10) = True := eq_true (by omega)
 simp only [newMapW,hbd,hbx,h10,if_true,newW_eq,List.length_append,List.length_cons,List.length_nil,List.append_assoc,List.cons_append,List.nil_append,Nat.zero_add,Nat.add_assoc,Nat.reduceAdd,List.length_map,zz,Nat.reduceEqDiff]
 generalize hS0 : (σ ++ [Blk.map 0 [],.map 0 [],.map 0 [],.arr 0 10 [.agg [.list kt tvs,nilV,.mref σ.length,.mref (σ.length + 1),.mref (σ.length + 2),nilV,nilV,nilV,nilV,nilV]]]) = S0
 have hS0l : S0.length = σ.length + 4 := by rw [← hS0]; simp
 have N0 : NL σ S0 (σ.length + 3) σ.length (σ.length + 1) (σ.length + 2) kt tvs (.map 0 (mapN (parV l) [])) (.map 0 (mapN (prtV l fun m => (mAtM l m).elems.1) [])) none nilV [] := by
  refine ⟨⟨by rw [← hS0]; simp [restN],fun x hx => ?_,(fun x hx => by cases hx),(fun x hx => by cases hx),fun s hs => ?_,?_⟩,⟨by omega,fun b hb _ => by rw [← hS0,List.getElem?_append_left hb],fun b hb => .inr ?_,(fun b hb => by cases hb)⟩⟩
  ·simp only [List.mem_cons,List.not_mem_nil,or_false] at hx
   rcases hx with rfl | rfl | rfl <;> rw [← hS0] <;> simp [mapN]
  ·simp only [List.mem_cons,List.not_mem_nil,or_false] at hs
   subst hs
   exact .inl ⟨rfl,rfl,rfl⟩
  ·simp [owL,ids]
  ·simp [owL,ids] at hb
   omega
 generalize hp : σ.length + 3 = p at *
 generalize hpm : σ.length = pm at *
 generalize hqm : pm + 1 = qm at *
 generalize hnmm : pm + 2 = nm at *
 have err3 : ∀ σ',LimT l → Stp [] σ [] σ' → weakW σ (.tuple [.nilptr,.int .i64 3]) σ' fun v σ => R (.ret v) σ := fun σ' hlim hst => weakW_keep (h1 3 σ' (.inr ⟨rfl,ok,hlim⟩) hst)
 have low : ∀ {σ' : St} {b1 b2 : Blk} {o : Option Nat} {v : PV} {gs : List PV},NL σ σ' p pm qm nm kt tvs b1 b2 o v gs → Stp [] σ [] σ' := fun h => ⟨h.stp.len,fun b hb _ => h.stp.frm b hb (by simp),(fun b hb => by cases hb),fun b hb => hb⟩
 have hgt : ∀ c : Nat,vBin none .gtr (pvN c) (.int .i64 1000) = some (.bool (decide (1000 < c))) := fun c => by
  unfold pvN pvI
  simp only [zz]
  congr 3
  apply propext
  omega
 have hnl : vNil (.ptr p 0 0 0) = some (.ptr p 0 0 0) := rfl
 
 refine Lfp_up l.length (fun i x σ' => x = lookP [(0,.list k (l.map pvMode)),(4,.ptr p 0 0 0),(24,.int .i64 l.length),(25,.int .i64 i)] ∧ σ' = S0 ∧ ∀ j,j < i → (leaves l j).length ≤ 1000) ?_ ⟨rfl,rfl,fun j hj => absurd hj (by omega)⟩
 rintro Φ1 i x σ1 hi ⟨rfl,rfl,hlv⟩ next1
 simp only [zz,Nat.reduceEqDiff]
 by_cases hlt : i < l.length
 ·simp only [hlt,zz,Nat.reduceEqDiff]
  refine (c29 (N0.tabAt htab) ok hlt).callB ?_
  simp only [hgt,zz,Nat.reduceEqDiff]
  refine condB (fun h => ?_) (fun h => ?_)
  ·refine err3 _ ⟨i,hlt,.inl ?_⟩ (low N0)
   have := of_decide_eq_true h
   unfold cntM at this
   omega
  ·rw [vBin_add _ (by omega) (by omega)]
   simp only [zz,Nat.reduceEqDiff]
   refine next1 _ _ hlt ⟨rfl,rfl,fun j hj => ?_⟩
   have := of_decide_eq_false h
   unfold cntM at this
   by_cases hji : j = i
   ·subst hji; omega
   ·exact hlv j (by omega)
 obtain rfl : i = l.length := by omega
 simp only [hlt,List.length_map,zz,Nat.reduceEqDiff]
 clear next1 hlt hi
 
 have hgf : ∀ (gs : List PV) (n : Nat),gs.length = n → (∀ j,j < n → ∃ k,gs[j]? = some (.agg [.list k ((nodeL l (ndG l j)).map (pvSlG l)),pvN 0]) ∧ (nodeL l (ndG l j)).length ≤ 1000) → ∀ x ∈ gs,Flat x := by
  intro gs n hn hc x hx
  obtain ⟨j,hj⟩ := List.getElem?_of_mem hx
  have hjl := (List.getElem?_eq_some_iff.1 hj).1
  obtain ⟨k,hk,_⟩ := hc j (by omega)
  rw [hj] at hk
  cases hk
  refine .agg _ fun y hy => ?_
  simp only [List.mem_cons,List.not_mem_nil,or_false] at hy
  rcases hy with rfl | rfl
  ·refine .list _ _ fun z hz => ?_
   obtain ⟨m,_,rfl⟩ := List.mem_map.1 hz
   exact flat_slG l m
  ·exact .int _ _
 have hslf : ∀ ms : List Nat,∀ x ∈ ms.map (pvSlG l),Flat x := fun ms x hx => by
  obtain ⟨m,_,rfl⟩ := List.mem_map.1 hx
  exact flat_slG l m
 have htf : Flat (.list k (l.map pvMode)) := .list _ _ fun x hx => by
  obtain ⟨m,_,rfl⟩ := List.mem_map.1 hx
  exact flat_modeK m.elems.1 m.names.1 m
 have hmk : ∀ v6 : PV,v6.cells? = some [v6] → vBuild [(.list .nil []),(.int .i64 0)] [(0,1,v6)] = some [v6,.int .i64 0] := fun v6 h => by simp [vBuild,h,setRange]
 have hmk2 : ∀ v6 : PV,vBuildSl 2 (List.replicate 1 (.agg [(.list .nil []),(.int .i64 0)])) [(0,(.agg [v6,.int .i64 0]))] = some [.agg [v6,.int .i64 0]] := fun v6 => rfl
 have fP : ∀ ms ver σ D,FrzB σ D (.map ver (mapN (parV l) ms)) (.map ver (mapN (parV l) ms)) := fun ms ver σ D => mapN_frz (fun i => .int _ _) ms ver σ D
 have fU : ∀ ms ver σ D,FrzB σ D (.map ver (mapN (prtV l fun m => (mAtM l m).elems.1) ms)) (.map ver (mapN (prtV l fun m => (mAtM l m).elems.1) ms)) := fun ms ver σ D => mapN_frz (fun i => flat_ints _ _) ms ver σ D
 refine Lfp_upW l.length (fun i x σ' => ∃ o v gs,x = lookP [(0,.list k (l.map pvMode)),(4,.ptr p 0 0 0),(34,.int .i64 l.length),(35,.int .i64 i)] ∧ NL σ σ' p pm qm nm kt tvs (.map 0 (mapN (parV l) [])) (.map 0 (mapN (prtV l fun m => (mAtM l m).elems.1) [])) o v gs ∧ gs.length = i ∧
   ∀ j,j < i → ∃ k,gs[j]? = some (.agg [.list k ((nodeL l (ndG l j)).map (pvSlG l)),pvN 0]) ∧ (nodeL l (ndG l j)).length ≤ 1000) ?_ ⟨none,nilV,[],rfl,N0,rfl,fun j hj => absurd hj (by omega)⟩
 rintro Φ2 i x σ2 hi ⟨o,v,gs,rfl,N,hgl,hgc⟩ next2 hw2
 simp only [zz,Nat.reduceEqDiff]
 by_cases hlt : i < l.length
 ·have hcell : vLoad false 1 (.ptr p 0 0 1) σ2 = some v := N.cell rfl
  simp only [hlt,hnl,hcell,zz,Nat.reduceEqDiff]
  refine c30 ok i hlt σ2 none nilV [] _ (N.tabAt htab) (.inl ⟨rfl,rfl,rfl⟩) (by simp) (by simp; have := hlv i hlt; omega) fun v6 σ6 o6 hg6 ho6 hf6 hl6 => ?_
  refine ⟨pre_Pre (pre_of_get hl6 fun b hb => hf6 b (by simp) hb),?_⟩
  show bindO False _ _
  simp only [List.nil_append] at hg6
  have hc6 := hg6.cell
  simp only at hc6
  have N6 := N.step hl6 (fun b hb => hf6 b (by simp) (N.lay.lt hb)) (fun b hb => hf6 b (by simp) (Nat.lt_of_lt_of_le hb N.stp.len))
  obtain ⟨v',σa,σb,ha,hb',D,σ'',k6,o',K,hDp,N'⟩ := N6.add htab (fP _ _) (fU _ _) (hgf gs i hgl hgc) (by omega) hg6 (fun b hb => ⟨by rcases ho6 b hb with h | h; cases h; have := N.stp.len; omega,fun hm => by
   have := N.lay.lt hm
   rcases ho6 b hb with h | h
   ·cases h
   ·omega⟩) (hslf _)
  simp only [hmk v6 hc6,hmk2,ha,hb',zz,Nat.reduceEqDiff]
  rw [vBin_add _ (by omega) (by omega)]
  simp only [zz,Nat.reduceEqDiff]
  refine hw2 _ _ _ _ ⟨D,K,fun t => lookP_free (fun e he => ?_) t⟩ (next2 _ _ hlt ⟨o',v',_,rfl,N',by simpa using hgl,fun j hj => ?_⟩)
  ·simp only [List.mem_cons,List.not_mem_nil,or_false] at he
   rcases he with rfl | rfl | rfl | rfl
   ·exact htf.free _
   ·exact .ptr _ _ _ _ hDp
   ·exact .int _ _
   ·exact .int _ _
  ·by_cases hji : j = i
   ·subst hji
    refine ⟨k6,?_,?_⟩
    ·rw [List.getElem?_append_right (by omega),hgl,Nat.sub_self,ndG_mode hlt,nodeL_mode hlt]
     rfl
    ·rw [ndG_mode hlt,nodeL_mode hlt]
     exact hlv j hlt
   ·rw [List.getElem?_append_left (by omega)]
    exact hgc j (by omega)
 obtain rfl : i = l.length := by omega
 simp only [hlt,List.length_map,zz,Nat.reduceEqDiff]
 clear next2 hw2 hlt hi N0 hS0
 
 refine Lfp_upW l.length (fun i x σ' => ∃ o v gs v1 v2,x = lookP [(0,.list k (l.map pvMode)),(4,.ptr p 0 0 0),(52,.list k (l.map pvMode)),(53,.int .i64 l.length),(54,.int .i64 i)] ∧ NL σ σ' p pm qm nm kt tvs (.map v1 (mapN (parV l) (procsTo l i))) (.map v2 (mapN (prtV l fun m => (mAtM l m).elems.1) (unionsTo l i))) o v gs ∧
   gs.length = l.length + (procsTo l i).length ∧ (∀ j,j < l.length + (procsTo l i).length → ∃ k,gs[j]? = some (.agg [.list k ((nodeL l (ndG l j)).map (pvSlG l)),pvN 0]) ∧ (nodeL l (ndG l j)).length ≤ 1000) ∧ ∀ m,m < i → procK (mAtM l m) = true → (parsL l m).length ≤ 1000) ?_
  ⟨o,v,gs,0,0,rfl,N,by simpa [procsTo] using hgl,by simpa [procsTo] using hgc,fun m hm => absurd hm (by omega)⟩
 clear N hgl hgc
 rintro Φ3 i x σ3 hi ⟨o,v,gs,v1,v2,rfl,N,hgl,hgc,hpl⟩ next3 hw3
 simp only [zz,Nat.reduceEqDiff]
 have hprl : (procsTo l i).length ≤ l.length := by
  have h1 := (procsTo_pre l hi).length_le
  have h2 := procs_len l
  rw [procsTo_all] at h1
  omega
 by_cases hlt : i < l.length
 ·have hc : l[i]? = some (mAtM l i) := by
   unfold mAtM
   rw [List.getD_eq_getElem?_getD,List.getElem?_eq_getElem hlt]
   rfl
  have hix : vIndex 6 (.list k (l.map pvMode)) (.int .i64 (i : Int)) = some (.eptr (pvMode (mAtM l i)) 0) := encMode.index hc
  have hpt : vPart true 6 (pvMode (mAtM l i)) 0 = some (pvMode (mAtM l i)) := rfl
  have hput : vPut 6 (.agg [(.int .i64 0),(.int .i64 0),(.list .nil []),(.list .nil []),(.int .i64 0),(.bool false)]) 0 (pvMode (mAtM l i)) = some (pvMode (mAtM l i)) := rfl
  have p0 : vPart false 1 (pvMode (mAtM l i)) 0 = some (.int .i64 (mAtM l i).kind) := rfl
  have p2 : vPart false 1 (pvMode (mAtM l i)) 2 = some (.list (mAtM l i).elems.1 ((mAtM l i).elems.2.map pvI)) := rfl
  have e13 : ((mAtM l i).kind == 13) = procK (mAtM l i) := rfl
  have e12 : ((mAtM l i).kind == 12) = unionK (mAtM l i) := rfl
  simp only [hlt,hix,hpt,hput,p0,e13,zz,Nat.reduceEqDiff]
  refine condB (fun hpr => ?_) (fun hpr => ?_)
  ·
   have hbe := bd_elems ok hlt
   have hwalk : ∀ e : Int,e ∈ (mAtM l i).elems.2 → (e.toNat : Int) = e ∧ e.toNat < l.length := fun e he => by
    obtain ⟨h1,h2,h3⟩ := plain_elem ok.plain (mAtM_mem hlt) he
    exact ⟨h3,h2⟩
   have hne := parts_pos ok hlt (.inr hpr)
   have hpos : 0 < (mAtM l i).elems.2.length := by
    rcases Nat.eq_zero_or_pos (mAtM l i).elems.2.length with h | h
    ·exact absurd (by unfold elemsN; rw [List.eq_nil_of_length_eq_zero h]; rfl) hne
    ·exact h
   have hparE : parsL l i = (((mAtM l i).elems.2.take ((mAtM l i).elems.2.length - 1)).map Int.toNat).flatMap (leaves l) := by
    unfold parsL
    rw [dropLast_take,elems_len_N]
    unfold elemsN
    rw [List.map_take]
   simp only [p2,List.length_map,zz,Nat.reduceEqDiff]
   rw [vBin_sub _ (by omega) (by omega)]
   have hcast : (((mAtM l i).elems.2.length : Int) - 1) = (((mAtM l i).elems.2.length - 1 : Nat) : Int) := by omega
   rw [hcast]
   simp only [sub_take encInt (k := (mAtM l i).elems.1) (l := (mAtM l i).elems.2) (i := (mAtM l i).elems.2.length - 1) (by omega),List.length_map,zz,Nat.reduceEqDiff]
   generalize ((mAtM l i).elems.1.sub ((mAtM l i).elems.2.length - 1 == (mAtM l i).elems.2.length)) = kq
   have hesm : ∀ e ∈ (mAtM l i).elems.2.take ((mAtM l i).elems.2.length - 1),e ∈ (mAtM l i).elems.2 := fun e he => List.mem_of_mem_take he
   have hesl : ((mAtM l i).elems.2.take ((mAtM l i).elems.2.length - 1)).length ≤ 64 := by simp; omega
   generalize hes : (mAtM l i).elems.2.take ((mAtM l i).elems.2.length - 1) = es at *
   have hpart : ∀ j,((es.take j).map Int.toNat).flatMap (leaves l) <+: (es.map Int.toNat).flatMap (leaves l) := fun j => by
    refine ⟨((es.drop j).map Int.toNat).flatMap (leaves l),?_⟩
    rw [← List.flatMap_append,← List.map_append,List.take_append_drop]
   refine Lfp_up es.length (fun j x σ4 => ∃ o6 v6,x = lookP [(0,.list k (l.map pvMode)),(4,.ptr p 0 0 0),(7,.int .i64 i),(9,v6),(52,.list k (l.map pvMode)),(53,.int .i64 l.length),(54,.int .i64 i),(69,.list kq (es.map pvI)),(70,.int .i64 es.length),(71,.int .i64 j)] ∧
     IsG σ4 ⟨o6,6,v6,(((es.take j).map Int.toNat).flatMap (leaves l)).map (pvSlG l)⟩ ∧ σ3.length ≤ σ4.length ∧ (∀ b,b < σ3.length → σ4[b]? = σ3[b]?) ∧ (∀ b,o6 = some b → σ3.length ≤ b) ∧ (((es.take j).map Int.toNat).flatMap (leaves l)).length ≤ 1000) ?_
    ⟨none,nilV,rfl,.inl ⟨rfl,rfl,rfl⟩,Nat.le_refl _,fun _ _ => rfl,(fun b hb => by cases hb),by simp⟩
   rintro Φ4 j x σ4 hj ⟨o6,v6,rfl,hg6,hl6,hf6,ho6,hn6⟩ next4
   have N4 := N.step hl6 (fun b hb => hf6 b (N.lay.lt hb)) (fun b hb => hf6 b (Nat.lt_of_lt_of_le hb N.stp.len))
   simp only [zz,Nat.reduceEqDiff]
   by_cases hltj : j < es.length
   ·have hce : es[j]? = some es[j] := by simp [hltj]
    have hemem : es[j] ∈ es := by simp
    generalize es[j] = e at hce hemem
    obtain ⟨eI,eL⟩ := hwalk e (hesm e hemem)
    have hpe : pvI e = pvN e.toNat := by unfold pvN; rw [eI]
    have hsum : ((es.take j).map Int.toNat).flatMap (leaves l) ++ leaves l e.toNat = ((es.take (j + 1)).map Int.toNat).flatMap (leaves l) := by
     rw [List.take_add_one,hce,List.map_append,List.flatMap_append]
     simp
    simp only [hltj,encInt.index hce,encInt.part,hpe,zz,Nat.reduceEqDiff]
    refine c30 ok e.toNat eL σ4 o6 v6 _ _ (N4.tabAt htab) hg6 (fun h => by have := ho6 p h; have := N.lay.lt (b := p) (by simp [owL]); omega) (by simp only [List.length_map]; have := hlv _ eL; omega) fun v7 σ7 o7 hg7 ho7 hf7 hl7 => ?_
    show bindO False _ _
    rw [← List.map_append,hsum] at hg7
    have hlen7 : vLen .sl v7 σ7 = some (pvN (((es.take (j + 1)).map Int.toNat).flatMap (leaves l)).length) := by
     have := hg7.len σ7
     simp only [List.length_map] at this
     exact this
    have hf7' : ∀ b,b < σ3.length → σ7[b]? = σ3[b]? := fun b hb => by
     rw [hf7 b (fun h => by have := ho6 b h; omega) (by omega)]
     exact hf6 b hb
    simp only [hlen7,hgt,zz,Nat.reduceEqDiff]
    refine condB (fun h => ?_) (fun h => ?_)
    ·have N7 := N.step (by omega : σ3.length ≤ σ7.length) (fun b hb => hf7' b (N.lay.lt hb)) (fun b hb => hf7' b (Nat.lt_of_lt_of_le hb N.stp.len))
     refine err3 _ ⟨i,hlt,.inr ⟨hpr,?_⟩⟩ (low N7)
     have h1 := of_decide_eq_true h
     have h2 := (hpart (j + 1)).length_le
     rw [hparE]
     omega
    ·have h1 := of_decide_eq_false h
     rw [vBin_add _ (by omega) (by omega)]
     simp only [zz,Nat.reduceEqDiff]
     refine next4 _ _ hltj ⟨o7,v7,rfl,hg7,by omega,hf7',fun b hb => ?_,by omega⟩
     rcases ho7 b hb with h | h
     ·exact ho6 b h
     ·omega
   ·obtain rfl : j = es.length := by omega
    rw [List.take_length,← hparE] at hg6 hn6
    have hc1 : vLoad false 1 (.ptr p 0 0 1) σ4 = some v := N4.cell rfl
    have hc2 : vLoad false 1 (.ptr p 0 0 2) σ4 = some (.mref pm) := N4.cell rfl
    have hvl := N4.isG.len σ4
    simp only at hvl
    have hgx := gix_eq hlt hpr
    have hvl' : vLen .sl v σ4 = some (parV l i) := by
     rw [hvl,hgl,← hgx]
     rfl
    obtain ⟨ms',hms,_,hms'⟩ := mapN_set (g := parV l) N4.at1 i
    have hni : i ∉ procsTo l i := fun h => by have := procsTo_lt h; omega
    have hps : procsTo l (i + 1) = procsTo l i ++ [i] := by rw [procsTo_succ,if_pos hpr]
    have hus : unionsTo l (i + 1) = unionsTo l i := by
     rw [unionsTo_succ,if_neg]
     intro h
     simp only [procK,unionK,beq_iff_eq] at hpr h
     omega
    rw [hms' hni,← hps] at hms
    have N5 := N4.setP (.map (v1 + 1) (mapN (parV l) (procsTo l (i + 1))))
    have hc1' : vLoad false 1 (.ptr p 0 0 1) (σ4.set pm (.map (v1 + 1) (mapN (parV l) (procsTo l (i + 1))))) = some v := N5.cell rfl
    have hc6 := hg6.cell
    simp only at hc6
    have hpmb := N.lay.lt (b := pm) (by simp [owL])
    have hg6' : IsG (σ4.set pm (.map (v1 + 1) (mapN (parV l) (procsTo l (i + 1))))) ⟨o6,6,v6,(parsL l i).map (pvSlG l)⟩ := hg6.to fun b hb => List.getElem?_set_ne (by have := ho6 b hb; omega)
    obtain ⟨v',σa,σb,ha,hb',D,σ'',k6,o',K,hDp,N'⟩ := N5.add htab (fP _ _) (fU _ _) (hgf gs _ hgl hgc) (by omega) hg6' (fun b hb => ⟨by have := ho6 b hb; have := N.stp.len; omega,fun hm => by
     have := N.lay.lt hm
     have := ho6 b hb
     omega⟩) (hslf _)
    have hmsI : vMapSet .int (.mref pm) (.int .i64 (i : Int)) (parV l i) σ4 = some (σ4.set pm (.map (v1 + 1) (mapN (parV l) (procsTo l (i + 1))))) := hms
    simp only [hltj,hnl,hc1,hc2,hvl',hmsI,hc1',hmk v6 hc6,hmk2,ha,hb',zz,Nat.reduceEqDiff]
    rw [vBin_add _ (by omega) (by omega)]
    simp only [zz,Nat.reduceEqDiff]
    refine hw3 _ _ _ _ ⟨D,K,fun t => lookP_free (fun e he => ?_) t⟩ (next3 _ _ hlt ⟨o',v',_,v1 + 1,v2,rfl,by rw [hus]; exact N',?_,fun j hj => ?_,fun m hm hmp => ?_⟩)
    ·simp only [List.mem_cons,List.not_mem_nil,or_false] at he
     rcases he with rfl | rfl | rfl | rfl | rfl
     ·exact htf.free _
     ·exact .ptr _ _ _ _ hDp
     ·exact htf.free _
     ·exact .int _ _
     ·exact .int _ _
    ·rw [hps]
     simp only [List.length_append,List.length_singleton]
     omega
    ·rw [hps] at hj
     simp only [List.length_append,List.length_singleton] at hj
     by_cases hji : j = l.length + (procsTo l i).length
     ·subst hji
      rw [← hgx,ndG_par (mem_procs.2 ⟨hlt,hpr⟩),nodeL_par hpr]
      refine ⟨k6,?_,hn6⟩
      rw [List.getElem?_append_right (by omega),hgl,hgx,Nat.sub_self]
      rfl
     ·rw [List.getElem?_append_left (by omega)]
      exact hgc j (by omega)
    ·by_cases hmi : m = i
     ·subst hmi; exact hn6
     ·exact hpl m (by omega) hmp
  ·have hps : procsTo l (i + 1) = procsTo l i := by rw [procsTo_succ,if_neg (by simp [hpr])]
   have hpl' : ∀ m,m < i + 1 → procK (mAtM l m) = true → (parsL l m).length ≤ 1000 := fun m hm hmp => by
    by_cases hmi : m = i
    ·subst hmi; rw [hpr] at hmp; cases hmp
    ·exact hpl m (by omega) hmp
   rw [e12]
   refine condB (fun hun => ?_) (fun hun => ?_)
   ·have hc3 : vLoad false 1 (.ptr p 0 0 3) σ3 = some (.mref qm) := N.cell rfl
    obtain ⟨ms',hms,_,hms'⟩ := mapN_set (g := prtV l fun m => (mAtM l m).elems.1) N.at2 i
    have hni : i ∉ unionsTo l i := fun h => by have := unionsTo_lt h; omega
    have hus : unionsTo l (i + 1) = unionsTo l i ++ [i] := by rw [unionsTo_succ,if_pos hun]
    rw [hms' hni,← hus] at hms
    have hmsI : vMapSet .int (.mref qm) (.int .i64 (i : Int)) (.list (mAtM l i).elems.1 ((mAtM l i).elems.2.map pvI)) σ3 = some (σ3.set qm (.map (v2 + 1) (mapN (prtV l fun m => (mAtM l m).elems.1) (unionsTo l (i + 1))))) := hms
    simp only [hnl,hc3,p2,hmsI,zz,Nat.reduceEqDiff]
    rw [vBin_add _ (by omega) (by omega)]
    simp only [zz,Nat.reduceEqDiff]
    refine next3 _ _ hlt ⟨o,v,gs,v1,v2 + 1,rfl,?_,by rw [hps]; exact hgl,by rw [hps]; exact hgc,hpl'⟩
    rw [hps]
    exact N.setU _
   ·have hus : unionsTo l (i + 1) = unionsTo l i := by rw [unionsTo_succ,if_neg (by simp [hun])]
    rw [vBin_add _ (by omega) (by omega)]
    simp only [zz,Nat.reduceEqDiff]
    refine next3 _ _ hlt ⟨o,v,gs,v1,v2,rfl,?_,by rw [hps]; exact hgl,by rw [hps]; exact hgc,hpl'⟩
    rw [hps,hus]
    exact N
 obtain rfl : i = l.length := by omega
 have hnolim : ¬ LimT l := by
  rintro ⟨m,hm,h | ⟨h,h'⟩⟩
  ·have := hlv m hm; omega
  ·have := hpl m hm h; omega
 simp only [hlt,zz,Nat.reduceEqDiff]
 clear next3 hw3
 rw [procsTo_all,unionsTo_all] at N
 rw [procsTo_all] at hgl hgc
 have hGl : gs.length = (gN l).length := by rw [gN_len]; exact hgl
 obtain ⟨⟨na1,na2,na3,na4⟩,nb1,nb2,nb3,nb4,nb5⟩ := N.ap
 have G : GS σ3 l p ⟨10,kt,tvs,v,gs,pm,v1,qm,v2,fun m => (mAtM l m).elems.1,[.mref nm,nilV,nilV,nilV,nilV,nilV]⟩ fun _ => 0 :=
  ⟨N.lay.lay,htab,N.isG.elems,hGl,fun x hx => hgc x (by rw [← gN_len]; exact hx),N.at1,N.at2⟩
 refine c31 G ok few N.isG ⟨na1,na2,na3⟩ fun c gs' σ4 hl4 hf4 hI4 hV4 hcs4 hc4 => ?_
 show Lfp σ _ _ _
 
 obtain ⟨gg,hgv⟩ : ∃ gg,∀ d : ED,d.og = o → d.gg = gg → d.gs = gs' → d.gv = v ∧ ∀ y ∈ d.gF,σ4[y.1]? = some y.2 ∧ o = some y.1 := by
  rcases hI4 with ⟨h1,h2,h3⟩ | ⟨b,g,h1,h2,h3,h4⟩
  ·simp only at h1 h2 h3
   refine ⟨0,fun d e1 e2 e3 => ⟨?_,fun y hy => ?_⟩⟩
   ·unfold ED.gv; rw [e1,h1,h2]
   ·unfold ED.gF at hy; rw [e1,h1] at hy; cases hy
  ·simp only at h1 h2 h3
   refine ⟨g,fun d e1 e2 e3 => ⟨?_,fun y hy => ?_⟩⟩
   ·unfold ED.gv; rw [e1,h1,e2,e3,h2]
   ·unfold ED.gF at hy
    rw [e1,h1,e2,e3] at hy
    simp only [List.mem_singleton] at hy
    subst hy
    exact ⟨h3,h1⟩
 let clc : Nat → Nat := fun c0 => if h : ∃ x,x < (gN l).length ∧ repT l (ndG l x) = c0 then c (@Classical.choose _ _ h) else 0
 have hclc : ∀ x,x < (gN l).length → clc (repT l (ndG l x)) = c x := fun x hx => by
  have hex : ∃ y,y < (gN l).length ∧ repT l (ndG l y) = repT l (ndG l x) := ⟨x,hx,rfl⟩
  show (if h : _ then _ else _) = _
  rw [dif_pos hex]
  obtain ⟨h1,h2⟩ := Classical.choose_spec hex
  exact (hc4 _ _ h1 hx).2 h2
 let d : ED := ⟨kt,tvs,o,gg,gs',pm,v1,mapN (parV l) (procs l),qm,v2,mapN (prtV l fun m => (mAtM l m).elems.1) (unionsL l),nm,c,clc⟩
 obtain ⟨hdv,hdF⟩ := hgv d rfl rfl rfl
 have E : Env l d := by
  refine ⟨ok,few,htab,hV4.1,fun hne => ?_,hV4.2,fun m hm => ?_,fun m hm hu => ?_,hclc,fun x hx y hy he => ?_⟩
  ·rcases hI4 with ⟨_,_,h3⟩ | ⟨b,g,h1,_⟩
   ·exact absurd h3 hne
   ·exact ⟨b,h1⟩
  ·have := vFind_map (g := parV l) (i := m) (procs l) 0
   rw [if_pos hm] at this
   exact ⟨_,this⟩
  ·have := vFind_map (g := prtV l fun m => (mAtM l m).elems.1) (i := m) (unionsL l) 0
   rw [if_pos (mem_unions.2 ⟨hm,hu⟩)] at this
   exact ⟨_,_,this⟩
  ·obtain ⟨i,hi⟩ := List.getElem?_of_mem hx
   obtain ⟨j,hj⟩ := List.getElem?_of_mem hy
   have hil := (List.getElem?_eq_some_iff.1 hi).1
   have hjl := (List.getElem?_eq_some_iff.1 hj).1
   have ei : ndG l i = x := by unfold ndG; rw [List.getD_eq_getElem?_getD,hi]; rfl
   have ej : ndG l j = y := by unfold ndG; rw [List.getD_eq_getElem?_getD,hj]; rfl
   subst ei ej
   have h1 := hclc i hil
   have h2 := hclc j hjl
   have he' : clc (repT l (ndG l i)) = clc (repT l (ndG l j)) := he
   rw [h1,h2] at he'
   exact (hc4 i j hil hjl).1 he'
 have hpl4 := N.lay.lt (b := p) (by simp [owL])
 have hml4 := N.lay.lt (b := nm) (by simp [owL])
 have hl1 := blk_lt N.at1
 have hl2 := blk_lt N.at2
 have hq1 : σ4[pm]? = some (.map v1 (mapN (parV l) (procs l))) := by rw [hf4 pm hl1 na2]; exact N.at1
 have hq2 : σ4[qm]? = some (.map v2 (mapN (prtV l fun m => (mAtM l m).elems.1) (unionsL l))) := by rw [hf4 qm hl2 na3]; exact N.at2
 have M0 : MS l d σ4 p ⟨[],[],[],[]⟩ [] [] ⟨none,none,none,none,none,nilV,nilV,nilV,nilV,nilV⟩ := by
  refine ⟨⟨0,?_,fun x hx => ?_,fun x hx => ?_,fun x hx => ?_,fun s hs => ?_,?_⟩,⟨rfl,rfl,rfl⟩,fun k hk => (by cases hk),fun v hv => (by rcases hv with h | h | h <;> cases h),rfl,fun m hm => (by cases hm),rfl,fun m hm => (by cases hm),?_⟩
  ·have e1 : σ4[p]? = σ3[p]? := hf4 p hpl4 na1
   rw [e1]
   have e2 := N.lay.lay
   show σ3[p]? = some (.arr 0 10 [.agg ([.list kt tvs,d.gv,.mref pm,.mref qm,.mref nm] ++ [nilV,nilV,nilV,nilV,nilV])])
   rw [hdv]
   exact e2
  ·simp only [List.mem_singleton] at hx
   subst hx
   show σ4[nm]? = some (.map 0 [])
   rw [hf4 nm hml4 na4]
   exact N.at3
  ·simp only [ED.F,List.mem_cons] at hx
   rcases hx with rfl | rfl | hx
   ·exact hq1
   ·exact hq2
   ·exact (hdF x hx).1
  ·have hown : owL p [(d.nm,Blk.map 0 (numE d []))] (S5 ⟨[],[],[],[]⟩ [] [] ⟨none,none,none,none,none,nilV,nilV,nilV,nilV,nilV⟩) = [p,nm] := rfl
   rw [hown]
   simp only [ED.F,List.mem_cons] at hx
   simp only [List.mem_cons,List.not_mem_nil,or_false,not_or]
   rcases hx with rfl | rfl | hx
   ·exact ⟨Ne.symm nb2,nb4⟩
   ·exact ⟨Ne.symm nb3,nb5⟩
   ·have h := (hdF x hx).2
    exact ⟨fun e => na1 (e ▸ h),fun e => na4 (e ▸ h)⟩
  ·simp only [S5,List.mem_cons,List.not_mem_nil,or_false,List.map_nil] at hs
   rcases hs with rfl | rfl | rfl | rfl | rfl <;> exact .inl ⟨rfl,rfl,rfl⟩
  ·show [p,nm].Nodup
   simp [nb1]
  ·have := free_le l []
   simpa using this
 have T0 : Stp [] σ (ow d p ⟨none,none,none,none,none,nilV,nilV,nilV,nilV,nilV⟩) σ4 := by
  refine ⟨by rw [hl4]; exact N.stp.len,fun b hb _ => ?_,fun b hb => .inr ?_,fun b hb => by cases hb⟩
  ·rw [hf4 b (Nat.lt_of_lt_of_le hb N.stp.len) (fun ho => ?_)]
   ·exact N.stp.frm b hb (by simp)
   ·rcases N.stp.new b (by simp [owL,ids,ho]) with h | h
    ·cases h
    ·omega
  ·have : ow d p ⟨none,none,none,none,none,nilV,nilV,nilV,nilV,nilV⟩ = [p,nm] := rfl
   rw [this] at hb
   rcases N.stp.new b (by
    simp only [List.mem_cons,List.not_mem_nil,or_false] at hb
    rcases hb with rfl | rfl <;> simp [owL]) with h | h
   ·cases h
   ·exact h
 refine Lfp_up l.length (fun i x σ' => ∃ A uo so xo,x = lookP [(4,.ptr p 0 0 0),(117,.int .i64 l.length),(118,.int .i64 i)] ∧ MS l d σ' p A uo so xo ∧ A.T = dfs (chR (rwT l)) (4 * l.length) [] ((List.range i).map fun m => .node (repT l m)) ∧ Grown (rwT l) ⟨[],[],[],[]⟩ A ∧ Stp [] σ (ow d p xo) σ') ?_
  ⟨_,[],[],_,by rw [List.length_map]; rfl,M0,by rw [List.range_zero,List.map_nil,dfs_nil],Grown.refl ⟨rfl,rfl,rfl⟩,T0⟩
 rintro Φ5 i x σ5 hi ⟨A,uo,so,xo,rfl,M,hT,hG,hS⟩ next5
 simp only [zz,Nat.reduceEqDiff]
 by_cases hlt5 : i < l.length
 ·simp only [hlt5,zz,Nat.reduceEqDiff]
  refine (meet_all E (4 * l.length)).1 p A uo so xo σ5 i _ M (free_le l _) (mode_lt_gN hlt5) fun A' uo' so' x' σ6 M' hT' hG' hS' => ?_
  rw [ndG_mode hlt5] at hT' ⊢
  show bindO False _ _
  rw [vBin_add _ (by omega) (by omega)]
  simp only [zz,Nat.reduceEqDiff]
  refine next5 _ _ hlt5 ⟨A',uo',so',x',rfl,M',?_,hG.trans hG',hS.trans hS'⟩
  rw [hT',hT,← dfs_append,List.range_succ,List.map_append]
  rfl
 ·obtain rfl : i = l.length := by omega
  simp only [hlt5,zz,Nat.reduceEqDiff]
  exact weakW_keep (h2 d p A uo so xo σ5 hnolim E M hT hG hS)
end
end Go.Proofs.YteikomnahelckaaGreatDoor

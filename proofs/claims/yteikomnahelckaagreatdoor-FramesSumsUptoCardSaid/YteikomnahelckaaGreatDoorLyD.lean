import Derived.Test.YteikomnahelckaaGreatDoorLyC
set_option linter.unusedVariables false
set_option linter.unusedSimpArgs false
namespace Go.Proofs.YteikomnahelckaaGreatDoor
open Go Go.Abs
section
variable {l : Tbl} {d : ED} {σ : St} {p : Nat} {A : LC} {uo so : List Nat} {x : OV}
theorem MS.to {σ' : St} (M : MS l d σ p A uo so x) (ho : ∀ b ∈ ow d p x,σ'[b]? = σ[b]?) (hf : ∀ b ∈ d.F.map (·.1),σ'[b]? = σ[b]?) : MS l d σ' p A uo so x := by
 obtain ⟨⟨ver,h1⟩,h2,h3,h4,h5,h6,h7,h8,h9⟩ := M
 exact ⟨⟨ver,h1.to (fun b hb => ho b hb) fun y hy => hf _ (List.mem_map.2 ⟨y,hy,rfl⟩)⟩,h2,h3,h4,h5,h6,h7,h8,h9⟩
theorem MS.own_lt (M : MS l d σ p A uo so x) {b : Nat} (hb : b ∈ ow d p x) : b < σ.length := by
 obtain ⟨ver,h⟩ := M.lay
 exact h.lt hb
theorem MS.F_lt (M : MS l d σ p A uo so x) {b : Nat} (hb : b ∈ d.F.map (·.1)) : b < σ.length := by
 obtain ⟨ver,h⟩ := M.lay
 obtain ⟨y,hy,rfl⟩ := List.mem_map.1 hb
 exact blk_lt (h.fs y hy)
theorem MS.T_small (M : MS l d σ p A uo so x) (E : Env l d) : A.T.length ≤ 2048 := by have := M.big; have := E.few; omega
theorem MS.ms_small (M : MS l d σ p A uo so x) (E : Env l d) : A.ms.length ≤ 2048 := by
 have h1 := M.fit.m
 have h2 : (nodesT A.T).length ≤ A.T.length := List.length_filterMap_le _ _
 have := M.T_small E
 omega
theorem MS.us_small (M : MS l d σ p A uo so x) (E : Env l d) : A.us.length ≤ 2048 := by
 have h1 := M.fit.u
 have h2 : (unisT A.T).length ≤ A.T.length := List.length_filterMap_le _ _
 have := M.T_small E
 omega
theorem MS.gs_small (M : MS l d σ p A uo so x) (E : Env l d) : A.gs.length ≤ 2048 := by
 have h1 := M.fit.g
 have h2 : (sigsT A.T).length ≤ A.T.length := List.length_filterMap_le _ _
 have := M.T_small E
 omega
theorem numE_add (d : ED) (T : List Key) (c : Nat) : numE d (T ++ [.node c]) = numE d T ++ [(pvN (d.clc c),pvN (nodesT T).length)] := by
 unfold numE
 rw [nodesT_add_node,List.mapIdx_append]
 simp
theorem MS.cells_free (M : MS l d σ p A uo so x) (E : Env l d) {D : Nat → Prop} (ho : ∀ b ∈ ow d p x,¬ D b) (hf : ∀ b ∈ d.F.map (·.1),¬ D b) : ∀ v ∈ d.fx ++ x.cv,Free D v := by
 intro v hv
 rcases List.mem_append.1 hv with hv | hv
 ·simp only [ED.fx,List.mem_cons,List.not_mem_nil,or_false] at hv
  rcases hv with rfl | rfl | rfl | rfl | rfl
  ·exact (Flat.list _ _ E.tab.flat).free D
  ·unfold ED.gv
   cases ho : d.og with
   | none => exact .list _ _ (by simp)
   | some b => exact .sref _ _ _ _ _ (hf _ (by simp [ED.F,ED.gF,ho]))
  ·exact .mref _ (hf _ (by simp [ED.F]))
  ·exact .mref _ (hf _ (by simp [ED.F]))
  ·exact .mref _ (ho _ (by simp [ow,owL]))
 ·obtain ⟨ver,h⟩ := M.lay
  have key : ∀ s ∈ S5 A uo so x,Free D s.v := by
   intro s hs
   rcases h.sl s hs with ⟨_,h2,_⟩ | ⟨b,g,h1,h2,_,_⟩
   ·rw [h2]; exact .list _ _ (by simp)
   ·rw [h2]
    refine .sref _ _ _ _ _ (ho b ?_)
    show b ∈ owL p [(d.nm,.map ver (numE d A.T))] (S5 A uo so x)
    unfold owL ids
    simp only [List.mem_cons,List.mem_append,List.mem_filterMap]
    exact .inr (.inr ⟨s,hs,h1⟩)
  simp only [OV.cv,List.mem_cons,List.not_mem_nil,or_false] at hv
  rcases hv with rfl | rfl | rfl | rfl | rfl
  ·exact key _ (.head _)
  ·exact key _ (.tail _ (.head _))
  ·exact key _ (.tail _ (.tail _ (.head _)))
  ·exact key _ (.tail _ (.tail _ (.tail _ (.head _))))
  ·exact key _ (.tail _ (.tail _ (.tail _ (.tail _ (.head _)))))
theorem flat_pvNs (l : List Nat) : ∀ x ∈ l.map pvN,Flat x := fun x hx => by
 obtain ⟨a,_,rfl⟩ := List.mem_map.1 hx
 exact .int _ _
theorem numE_frz (d : ED) (T : List Key) (ver : Nat) (σ : St) (D : Nat → Prop) : FrzB σ D (.map ver (numE d T)) (.map ver (numE d T)) := by
 refine .inr ⟨_,rfl,rfl,fun i e e' h1 h2 => ?_⟩
 rw [h1] at h2
 cases h2
 have hm := List.mem_of_getElem? h1
 unfold numE at hm
 obtain ⟨j,hj,rfl⟩ := List.mem_mapIdx.1 hm
 exact ⟨(Flat.int _ _).frz _ _,(Flat.int _ _).frz _ _⟩
theorem isG_frz {σ : St} {o : Option Nat} {sz : Nat} {v : PV} {xs : List PV} (h : IsG σ ⟨o,sz,v,xs⟩) {D : Nat → Prop} (hD : ∀ b,o = some b → D b) (hf : ∀ y ∈ xs,Flat y) : FrzD σ D v (growV xs) := by
 rcases h with ⟨_,h2,h3⟩ | ⟨b,g,h1,h2,h3,h4⟩
 ·simp only at h2 h3
  rw [h2,h3]
  exact .list _ _ _ rfl (by simp)
 ·simp only at h1 h2 h3 h4
  rw [h2]
  cases xs with
  | nil => exact absurd rfl h4
  | cons y ys =>
   refine .sref b g sz 0 _ g sz _ _ h3 rfl (hD b h1) rfl (by omega) fun i a c hi ha hc => ?_
   rw [Nat.zero_add,hc] at ha
   cases ha
   exact (hf a (List.mem_of_getElem? hc)).frz _ _
theorem c32_step {n : Nat} (E : Env l d) (hP : ∀ m,n = m + 1 → P32 l d m ∧ P128 l d m ∧ P64 l d m) : P32 l d n := by
 intro p A uo so x σ g R M hn hg hR
 refine callW_fold ?_
 rw [fn32_eq]
 delta fn32 bF lF sF kF nI nL mF
 have hnl : vNil (.ptr p 0 0 0) = some (.ptr p 0 0 0) := rfl
 have h1 : vLoad false 1 (.ptr p 0 0 1) σ = some d.gv := M.cell rfl
 have h4 : vLoad false 1 (.ptr p 0 0 4) σ = some (.mref d.nm) := M.cell rfl
 have hfd := M.find E hg true
 simp only [hnl,h1,E.gidx hg,M.cls E hg,h4,hfd,zz,Nat.reduceEqDiff]
 by_cases hm : Key.node (repT l (ndG l g)) ∈ A.T
 ·simp only [if_pos hm,if_true,zz,Nat.reduceEqDiff]
  exact weakW_keep (hR A uo so x σ M (dfs_old hm n).symm (Grown.refl M.fit) (Stp.refl _ _))
 obtain ⟨m,rfl⟩ : ∃ m,n = m + 1 := ⟨n - 1,by have := free_lt (univ_rep (ndG_mem hg)) hm; omega⟩
 have hPm := hP m rfl
 simp only [if_neg hm,if_true,zz,Nat.reduceEqDiff]
 have h5 : vLoad false 1 (.ptr p 0 0 5) σ = some x.mv := M.cell rfl
 obtain ⟨ver,ML⟩ := M.lay
 have hmv := (ML.sl ⟨x.om,1,x.mv,A.ms⟩ (by simp [S5])).len σ
 simp only at hmv
 have hms := M.ms_small E
 
 have hset : vMapSet .int (.mref d.nm) (pvN (d.cl g)) (.int .i64 (A.ms.length : Int)) σ = some (σ.set d.nm (.map (ver + 1) (numE d (A.T ++ [.node (repT l (ndG l g))])))) := by
  have hb := ML.qs (d.nm,.map ver (numE d A.T)) (by simp)
  simp only at hb
  have hf := vFind_num (f := d.clc) (c0 := repT l (ndG l g)) (nodesT A.T) 0 0 (fun c hc he => by
   obtain ⟨y,hy,rfl⟩ := univ_codes (M.sub _ (mem_nodesT.1 hc))
   exact E.inj _ hy _ (ndG_mem hg) he)
  simp only [Nat.zero_add] at hf
  rw [E.cod g hg,if_neg (fun h => hm (mem_nodesT.1 h))] at hf
  have hk : isKey .int (pvN (d.cl g)) = true := rfl
  rw [numE_add]
  simp only [vMapSet,hb,hk,if_true]
  unfold numE
  rw [hf]
  simp only
  rw [E.cod g hg,M.fit.m]
  rfl
 obtain ⟨L1,T1⟩ := ML.setQ (QL := []) (QR := []) (k' := .map (ver + 1) (numE d (A.T ++ [.node (repT l (ndG l g))])))
 have h5' : vLoad false 1 (.ptr p 0 0 5) (σ.set d.nm (.map (ver + 1) (numE d (A.T ++ [.node (repT l (ndG l g))])))) = some x.mv := L1.load rfl
 simp only [h5,hmv,hset,h5',zz,Nat.reduceEqDiff]
 generalize σ.set d.nm (.map (ver + 1) (numE d (A.T ++ [.node (repT l (ndG l g))]))) = σ1 at L1 T1 ⊢
 have hb1 : vBuild [(.list .nil [])] [] = some [PV.list .nil []] := rfl
 have hb2 : vBuildSl 1 (List.replicate 1 (.agg [(.list .nil [])])) [(0,(.agg [PV.list .nil []]))] = some [.agg [PV.list .nil []]] := rfl
 obtain ⟨mv',σ2,om',ha,L2,T2⟩ := L1.app (L := []) (R := [⟨x.ou,1,x.uv,A.us⟩,⟨x.os,2,x.sv,A.gs⟩,⟨x.oa,1,x.av,uo.map pvN⟩,⟨x.ob,1,x.bv,so.map pvN⟩]) (s := ⟨x.om,1,x.mv,A.ms⟩) (by_ := 24) (k := .full) (y := .agg [PV.list .nil []]) (ys := [])
  (fun z hz => by simp at hz; subst hz; exact ⟨_,rfl,rfl⟩) (by simp; omega)
 simp only at ha
 obtain ⟨σ3,hp3,L3,e3⟩ := L2.put (j := 0) (by simp [OV.cv]) (v := mv') ((L2.sl ⟨om',1,mv',A.ms ++ [.agg [PV.list .nil []]]⟩ (by simp)).cell)
 have hp3' : vStore 1 (.ptr p 0 0 5) mv' σ2 = some σ3 := hp3
 simp only [hb1,hb2,ha,hp3',zz,Nat.reduceEqDiff]
 have e3' : ow d p ⟨om',x.ou,x.os,x.oa,x.ob,mv',x.uv,x.sv,x.av,x.bv⟩ = owL p [(d.nm,.map (ver + 1) (numE d (A.T ++ [.node (repT l (ndG l g))])))] (⟨om',1,mv',A.ms ++ [.agg [PV.list .nil []]]⟩ :: [⟨x.ou,1,x.uv,A.us⟩,⟨x.os,2,x.sv,A.gs⟩,⟨x.oa,1,x.av,uo.map pvN⟩,⟨x.ob,1,x.bv,so.map pvN⟩]) := by
  rfl
 have M3 : MS l d σ3 p { A with T := A.T ++ [.node (repT l (ndG l g))],ms := A.ms ++ [.agg [PV.list .nil []]] } uo so ⟨om',x.ou,x.os,x.oa,x.ob,mv',x.uv,x.sv,x.av,x.bv⟩ := by
  refine ⟨⟨ver + 1,?_⟩,⟨by simp [nodesT_add_node,M.fit.m],by rw [unisT_add_node]; exact M.fit.u,by rw [sigsT_add_node]; exact M.fit.g⟩,fun k hk => ?_,fun v hv => ?_,by rw [unisT_add_node]; exact M.uu,M.ul,by rw [sigsT_add_node]; exact M.ss,M.sl,?_⟩
  ·exact L3
  ·rcases List.mem_append.1 hk with hk | hk
   ·exact M.sub k hk
   ·simp at hk; subst hk; exact univ_rep (ndG_mem hg)
  ·simp only [List.mem_append,List.mem_singleton] at hv
   rcases hv with (hv | rfl) | hv | hv
   ·exact M.flat v (.inl hv)
   ·exact .agg _ fun y hy => by simp at hy; subst hy; exact .list _ _ (by simp)
   ·exact M.flat v (.inr (.inl hv))
   ·exact M.flat v (.inr (.inr hv))
  ·have := M.big
   have := free_lt (univ_rep (ndG_mem hg)) hm
   simp only [List.length_append,List.length_singleton]
   omega
 have T3 : Stp (ow d p x) σ (ow d p ⟨om',x.ou,x.os,x.oa,x.ob,mv',x.uv,x.sv,x.av,x.bv⟩) σ3 := by
  rw [e3']
  refine (Stp.trans T1 T2).trans ?_
  rw [e3]
  exact Stp.set (by simp [owL]) _
 generalize hx1 : (⟨om',x.ou,x.os,x.oa,x.ob,mv',x.uv,x.sv,x.av,x.bv⟩ : OV) = x1 at M3 T3
 generalize hA1 : ({ A with T := A.T ++ [.node (repT l (ndG l g))],ms := A.ms ++ [.agg [PV.list .nil []]] } : LC) = A1 at M3
 have hA1T : A1.T = A.T ++ [.node (repT l (ndG l g))] := by rw [← hA1]
 have hA1m : A1.ms = A.ms ++ [.agg [PV.list .nil []]] := by rw [← hA1]
 have hfree : free (univ l) A1.T ≤ m := by
  have := free_lt (univ_rep (ndG_mem hg)) hm
  rw [hA1T]
  omega
 have g1 : vLoad false 1 (.ptr p 0 0 1) σ3 = some d.gv := M3.cell rfl
 obtain ⟨ks,hsl,hnl1⟩ := M3.slots E hg
 have hlm := node_mem_g E.ok (ndG_mem hg)
 simp only [g1,E.gidx hg,hsl,List.length_map,zz,Nat.reduceEqDiff]
 have hclos := univ_closed E.ok
 have hallU : ∀ q ∈ nodeL l (ndG l g),∀ k,keyM l q = some k → k ∈ univ l := fun q hq k hk => keyM_univ E.ok (hlm q hq).1 hk
 clear L2 L3 e3 e3' hp3 hp3' ha T2 L1 T1 h5'
 generalize hnd : nodeL l (ndG l g) = nd at hsl hnl1 hlm hallU ⊢
 have hchs : ∀ i,∀ k ∈ (nd.take i).filterMap (keyM l),k ∈ univ l := by
  intro i k hk
  obtain ⟨q,hq,hk⟩ := List.mem_filterMap.1 hk
  exact hallU q (List.mem_of_mem_take hq) k hk
 refine Lfp_up nd.length (fun i z σ' => ∃ (B : LC) (ub sb : List Nat) (xb : OV) (oo : Option Nat) (ov : PV),z = lookP [(0,.ptr p 0 0 0),(8,.int .i64 (A.ms.length : Int)),(9,ov),(59,.list ks (nd.map (pvSlG l))),(60,.int .i64 nd.length),(61,.int .i64 i)] ∧
   MS l d σ' p B ub sb xb ∧ B.T = dfs (chR (rwT l)) m A1.T ((nd.take i).filterMap (keyM l)) ∧ Grown (rwT l) A1 B ∧ Stp (ow d p x) σ (ow d p xb) σ' ∧
   IsG σ' ⟨oo,5,ov,(nd.take i).map fun q => pvSlot (numS B.T (slotOf (mAtM l q),keyM l q))⟩ ∧ ∀ b,oo = some b → σ.length ≤ b ∧ b ∉ ow d p xb) ?_
  ⟨A1,uo,so,x1,none,.list .nil [],rfl,M3,by rw [List.take_zero,List.filterMap_nil,dfs_nil],Grown.refl M3.fit,T3,.inl ⟨rfl,rfl,rfl⟩,fun b hb => by cases hb⟩
 rintro Φ i z σ' hi ⟨B,ub,sb,xb,oo,ov,rfl,MB,hBT,hBG,hBS,hout,hoo⟩ next
 simp only [zz,Nat.reduceEqDiff]
 by_cases hlt : i < nd.length
 ·have hc : nd[i]? = some nd[i] := by simp [hlt]
  have hqm : nd[i] ∈ nd := by simp
  generalize nd[i] = q at hc hqm
  have hix : vIndex 6 (.list ks (nd.map (pvSlG l))) (.int .i64 (i : Int)) = some (.eptr (pvSlG l q) 0) := vIndex_list .i64 (by rw [List.getElem?_map,hc]; rfl) rfl rfl
  have hpt : vPart true 6 (pvSlG l q) 0 = some (pvSlG l q) := rfl
  have hput : vPut 6 (.agg [(.int .i64 0),(.int .i64 0),(.int .i64 0),(.int .i64 0),(.bool false),(.int .i64 0)]) 0 (pvSlG l q) = some (pvSlG l q) := rfl
  simp only [hlt,hix,hpt,hput,zz,Nat.reduceEqDiff]
  have hfB : free (univ l) B.T ≤ m := Nat.le_trans (free_pre hBG.pre) hfree
  refine c84 E hPm MB hfB (hlm q hqm).1 fun B' ub' sb' xb' σ2' MB' hT' hG' hS' => ?_
  show bindO False _ _
  have hbs : vBuildSl 5 (List.replicate 1 (.agg [(.int .i64 0),(.int .i64 0),(.int .i64 0),(.int .i64 0),(.bool false)])) [(0,pvSlot (numS B'.T (slotOf (mAtM l q),keyM l q)))] = some [pvSlot (numS B'.T (slotOf (mAtM l q),keyM l q))] := rfl
  have hout' : IsG σ2' ⟨oo,5,ov,(nd.take i).map fun q => pvSlot (numS B'.T (slotOf (mAtM l q),keyM l q))⟩ := by
   have e : ((nd.take i).map fun q => pvSlot (numS B'.T (slotOf (mAtM l q),keyM l q))) = (nd.take i).map fun q => pvSlot (numS B.T (slotOf (mAtM l q),keyM l q)) := by
    refine List.map_congr_left fun q' hq' => ?_
    congr 1
    unfold numS
    cases hk : keyM l q' with
    | none => rfl
    | some k =>
     simp only
     have hkB : k ∈ B.T := by
      rw [hBT]
      exact dfs_mem hclos m _ _ hfree (hchs i) k (List.mem_filterMap.2 ⟨q',hq',hk⟩)
     rw [rank_pre hG'.pre hkB]
   rw [e]
   exact hout.to fun b hb => hS'.frm b (hout.id hb) (hoo b hb).2
  have hoo' : ∀ b,oo = some b → σ.length ≤ b ∧ b ∉ ow d p xb' := fun b hb => ⟨(hoo b hb).1,fun hm' => by
   rcases hS'.new b hm' with h | h
   ·exact (hoo b hb).2 h
   ·have := hout.id hb
    omega⟩
  obtain ⟨ov',σ3',o3,hap,hI3,ho3,hfr3,hlen3⟩ := hout'.app1 (by_ := 40) (k := .full) (y := pvSlot (numS B'.T (slotOf (mAtM l q),keyM l q))) ⟨_,rfl,rfl⟩ (by simp only [List.length_map,List.length_take]; omega)
  simp only at hap
  simp only [hbs,hap,zz,Nat.reduceEqDiff]
  rw [vBin_add _ (by omega) (by omega)]
  simp only [zz,Nat.reduceEqDiff]
  have M3' : MS l d σ3' p B' ub' sb' xb' := MB'.to (fun b hb => hfr3 b (fun e => (hoo' b e).2 hb) (MB'.own_lt hb)) (fun b hb => hfr3 b (fun e => by have := (hoo' b e).1; have := M.F_lt hb; omega) (MB'.F_lt hb))
  refine next _ _ hlt ⟨B',ub',sb',xb',o3,ov',rfl,M3',?_,hBG.trans hG',?_,?_,?_⟩
  ·rw [hT',hBT,← dfs_append,List.take_add_one,hc,List.filterMap_append]
   congr 1
  ·refine ⟨Nat.le_trans (hBS.trans hS').len hlen3,fun b hb hbo => ?_,(hBS.trans hS').new,(hBS.trans hS').old⟩
   rw [hfr3 b (fun e => by have := (hoo' b e).1; omega) (by have := (hBS.trans hS').len; omega)]
   exact (hBS.trans hS').frm b hb hbo
  ·rw [List.take_add_one,hc,List.map_append]
   exact hI3
  ·intro b hb
   rcases ho3 b hb with h | rfl
   ·exact hoo' b h
   ·refine ⟨by have := (hBS.trans hS').len; omega,fun hm' => ?_⟩
    have := MB'.own_lt hm'
    omega
 ·obtain rfl : i = nd.length := by omega
  rw [List.take_length] at hBT hout
  have hTB : B.T = dfs (chR (rwT l)) (m + 1) A.T [.node (repT l (ndG l g))] := by rw [dfs_new hm,ch_node,hnd,hBT,hA1T]
  have h5b : vLoad false 1 (.ptr p 0 0 5) σ' = some xb.mv := MB.cell rfl
  obtain ⟨vb,LB⟩ := MB.lay
  have hBl := hBG.lm
  rw [hA1m] at hBl
  simp only [List.length_append,List.length_singleton] at hBl
  obtain ⟨bm,gm,hbo,hbk,hbix⟩ := LB.index (L := []) (R := [⟨xb.ou,1,xb.uv,B.us⟩,⟨xb.os,2,xb.sv,B.gs⟩,⟨xb.oa,1,xb.av,ub.map pvN⟩,⟨xb.ob,1,xb.bv,sb.map pvN⟩]) (s := ⟨xb.om,1,xb.mv,B.ms⟩) (i := A.ms.length) (by show A.ms.length < B.ms.length; omega) .i64
  simp only at hbix hbk hbo
  have hBm : B.ms[A.ms.length]? = some (.agg [PV.list .nil []]) := by
   rw [hBG.om _ (by rw [hA1m]; simp),hA1m]
   simp
  have hpu : vPut 1 (.agg [PV.list .nil []]) 0 ov = some (.agg [ov]) := by
   have := hout.cell
   simp only at this
   simp [vPut,this,setRange]
  obtain ⟨σ4,hst4,L4,T4⟩ := LB.setI (L := []) (R := [⟨xb.ou,1,xb.uv,B.us⟩,⟨xb.os,2,xb.sv,B.gs⟩,⟨xb.oa,1,xb.av,ub.map pvN⟩,⟨xb.ob,1,xb.bv,sb.map pvN⟩]) (s := ⟨xb.om,1,xb.mv,B.ms⟩) hbo hbk hBm hpu
  simp only [hlt,hnl,h5b,hbix,hst4,zz,Nat.reduceEqDiff]
  have hS4 : Stp (ow d p x) σ (ow d p xb) σ4 := hBS.trans T4
  have hout4 : IsG σ4 ⟨oo,5,ov,nd.map fun q => pvSlot (numS B.T (slotOf (mAtM l q),keyM l q))⟩ := hout.to fun b hb => T4.frm b (hout.id hb) (hoo b hb).2
  have hfl : ∀ y ∈ nd.map fun q => pvSlot (numS B.T (slotOf (mAtM l q),keyM l q)),Flat y := fun y hy => by
   obtain ⟨q,_,rfl⟩ := List.mem_map.1 hy
   exact flat_slot _
  obtain ⟨kg,hkg,hkn⟩ := growV_ok (nd.map fun q => pvSlot (numS B.T (slotOf (mAtM l q),keyM l q)))
  have hDow : ∀ b ∈ ow d p xb,¬ (σ.length ≤ b ∧ b ∉ ow d p xb) := fun b hb h => h.2 hb
  have hDF : ∀ b ∈ d.F.map (·.1),¬ (σ.length ≤ b ∧ b ∉ ow d p xb) := fun b hb h => by have := M.F_lt hb; omega
  obtain ⟨σ5,K5,L5,T5⟩ := L4.kill (σ₀ := σ) (o₀ := ow d p x) (L := []) (R := [⟨xb.ou,1,xb.uv,B.us⟩,⟨xb.os,2,xb.sv,B.gs⟩,⟨xb.oa,1,xb.av,ub.map pvN⟩,⟨xb.ob,1,xb.bv,sb.map pvN⟩]) (s := ⟨xb.om,1,xb.mv,B.ms.set A.ms.length (.agg [ov])⟩)
   hS4 (D := fun b => σ.length ≤ b ∧ b ∉ ow d p xb) (fun b => Iff.rfl) (MB.cells_free E hDow hDF) (fun y hy => by simp at hy; subst hy; exact numE_frz d B.T vb _ _) (fun y hy => M.F_lt (List.mem_map.2 ⟨y,hy,rfl⟩))
   (fun t ht y hy => by
    simp only [List.not_mem_nil,List.mem_cons,or_false,false_or] at ht
    rcases ht with rfl | rfl | rfl | rfl
    ·exact (MB.flat y (.inr (.inl hy))).free _
    ·exact (MB.flat y (.inr (.inr hy))).free _
    ·exact (flat_pvNs _ y hy).free _
    ·exact (flat_pvNs _ y hy).free _)
   (xs' := B.ms.set A.ms.length (.agg [growV (nd.map fun q => pvSlot (numS B.T (slotOf (mAtM l q),keyM l q)))])) (by simp)
   (fun j a b ha hb => by
    simp only at ha hb
    rw [List.getElem?_set] at ha hb
    by_cases hj : A.ms.length = j
    ·rw [if_pos hj] at ha hb
     subst hj
     rw [if_pos (by omega)] at ha hb
     cases ha; cases hb
     refine .agg _ _ rfl fun j a b ha hb => ?_
     cases j with
     | zero =>
      cases ha; cases hb
      exact isG_frz hout4 (fun b hb => ⟨(hoo b hb).1,(hoo b hb).2⟩) hfl
     | succ j => simp at ha
    ·rw [if_neg hj] at ha hb
     rw [ha] at hb
     cases hb
     exact (MB.flat a (.inl (List.mem_of_getElem? ha))).frz _ _)
  generalize hgv : growV (nd.map fun q => pvSlot (numS B.T (slotOf (mAtM l q),keyM l q))) = gv at L5 T5 hkg
  have hmet : MetK (rwT l) B.T (.node (repT l (ndG l g))) := by
   intro k hk
   rw [ch_node,hnd] at hk
   rw [hBT]
   refine dfs_mem hclos m _ _ hfree (fun k hk => ?_) k hk
   have := hchs nd.length k
   rw [List.take_length] at this
   exact this hk
  have hdone : doneM (rwT l) B.T (.agg [gv]) (repT l (ndG l g)) := by
   have := slotsN_eq l B.T (ndG l g)
   unfold slotsN at this
   refine ⟨hmet,kg,?_,fun h => ?_⟩
   ·rw [this,hnd,hkg,List.map_map]
    rfl
   ·rw [this,hnd]
    simpa using hkn h
  have hG : Grown (rwT l) A { B with ms := B.ms.set A.ms.length (.agg [gv]) } := by
   rw [← hA1] at hBG
   exact hBG.node M.fit hdone
  refine weakW_kill (v' := .int .i64 (A.ms.length : Int)) _ K5 (.base _ (.int _ _)) ?_
  have hrank : pvN (rankK B.T (.node (repT l (ndG l g)))) = .int .i64 (A.ms.length : Int) := by
   have h1 : rankK B.T (.node (repT l (ndG l g))) = A.ms.length := by
    rw [rank_pre hBG.pre (k := .node (repT l (ndG l g))) (by rw [hA1T]; simp),hA1T]
    show (nodesT (A.T ++ [Key.node (repT l (ndG l g))])).idxOf (repT l (ndG l g)) = _
    rw [nodesT_add_node,List.idxOf_append,if_neg (fun h => hm (mem_nodesT.1 h)),M.fit.m]
    simp
   rw [h1]
   rfl
  have := hR { B with ms := B.ms.set A.ms.length (.agg [gv]) } ub sb xb σ5 ⟨⟨vb,L5⟩,hG.fit,MB.sub,fun v hv => ?_,MB.uu,MB.ul,MB.ss,MB.sl,MB.big⟩ hTB hG T5
  ·simp only [hrank] at this
   exact this
  ·rcases hv with hv | hv
   ·rcases List.mem_or_eq_of_mem_set hv with hv | rfl
    ·exact MB.flat v (.inl hv)
    ·refine .agg _ fun y hy => ?_
     simp at hy
     subst hy
     rw [hkg]
     exact .list _ _ hfl
   ·exact MB.flat v (.inr hv)
end
end Go.Proofs.YteikomnahelckaaGreatDoor

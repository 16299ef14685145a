import Derived.Test.YteikomnahelckaaGreatDoorLyE
set_option linter.unusedVariables false
set_option linter.unusedSimpArgs false
namespace Go.Proofs.YteikomnahelckaaGreatDoor
open Go Go.Abs
section
variable {l : Tbl} {d : ED} {σ : St} {p : Nat} {A : LC} {uo so : List Nat} {x : OV}
abbrev zeroSig : PV := .agg [.int .i64 0,.int .i64 0]
theorem flat_zeroSig : Flat zeroSig := .agg _ fun y hy => by
 simp only [List.mem_cons,List.not_mem_nil,or_false] at hy
 rcases hy with rfl | rfl <;> exact .int _ _
theorem MS.addG (M : MS l d σ p A uo so x) (E : Env l d) {m : Nat} (hm : m ∈ procs l) (hk : Key.sig (sigM l m).1 (sigM l m).2 ∉ A.T) :
  ∃ sv' σa bv' σb σc σd x1,vAppend 2 16 x.sv (.list .full [zeroSig]) σ = some (sv',σa) ∧ vLoad false 1 (.ptr p 0 0 9) σa = some x.bv ∧ vAppend 1 8 x.bv (.list .full [pvN m]) σa = some (bv',σb) ∧ vStore 1 (.ptr p 0 0 7) sv' σb = some σc ∧ vStore 1 (.ptr p 0 0 9) bv' σc = some σd ∧
   MS l d σd p { A with T := A.T ++ [.sig (sigM l m).1 (sigM l m).2],gs := A.gs ++ [zeroSig] } uo (so ++ [m]) x1 ∧ Stp (ow d p x) σ (ow d p x1) σd := by
 obtain ⟨ver,ML⟩ := M.lay
 have hgs := M.gs_small E
 have hso : so.length ≤ 2048 := by
  have h1 : (so.map (sigM l)).length = A.gs.length := by rw [M.ss,M.fit.g]
  rw [List.length_map] at h1
  omega
 obtain ⟨sv',σa,os',ha,La,Ta⟩ := ML.app (L := [⟨x.om,1,x.mv,A.ms⟩,⟨x.ou,1,x.uv,A.us⟩]) (R := [⟨x.oa,1,x.av,uo.map pvN⟩,⟨x.ob,1,x.bv,so.map pvN⟩]) (s := ⟨x.os,2,x.sv,A.gs⟩) (by_ := 16) (k := .full) (y := zeroSig) (ys := [])
  (fun z hz => by simp at hz; subst hz; exact ⟨_,rfl,rfl⟩) (by simp; omega)
 obtain ⟨bv',σb,ob',hb,Lb,Tb⟩ := La.app (L := [⟨x.om,1,x.mv,A.ms⟩,⟨x.ou,1,x.uv,A.us⟩,⟨os',2,sv',A.gs ++ [zeroSig]⟩,⟨x.oa,1,x.av,uo.map pvN⟩]) (R := []) (s := ⟨x.ob,1,x.bv,so.map pvN⟩) (by_ := 8) (k := .full) (y := pvN m) (ys := [])
  (fun z hz => by simp at hz; subst hz; exact ⟨_,rfl,rfl⟩) (by simp; omega)
 obtain ⟨σc,hc,Lc,ec⟩ := Lb.put (j := 2) (by simp [OV.cv]) (v := sv') ((Lb.sl ⟨os',2,sv',A.gs ++ [zeroSig]⟩ (by simp)).cell)
 obtain ⟨σd,hd,Ld,ed⟩ := Lc.put (j := 4) (by simp [OV.cv]) (v := bv') ((Lc.sl ⟨ob',1,bv',so.map pvN ++ [pvN m]⟩ (by simp)).cell)
 refine ⟨sv',σa,bv',σb,σc,σd,⟨x.om,x.ou,os',x.oa,ob',x.mv,x.uv,sv',x.av,bv'⟩,ha,La.load rfl,hb,hc,hd,⟨⟨ver,?_⟩,⟨by rw [nodesT_add_sig]; exact M.fit.m,by rw [unisT_add_sig]; exact M.fit.u,by simp [sigsT_add_sig,M.fit.g]⟩,fun k hk => ?_,fun v hv => ?_,by rw [unisT_add_sig]; exact M.uu,M.ul,by rw [sigsT_add_sig,List.map_append,M.ss]; rfl,fun o ho => ?_,?_⟩,?_⟩
 ·have e : numE d (A.T ++ [.sig (sigM l m).1 (sigM l m).2]) = numE d A.T := by unfold numE; rw [nodesT_add_sig]
  simp only [e]
  have e2 : (so ++ [m]).map pvN = so.map pvN ++ [pvN m] := by simp
  unfold S5
  simp only [e2]
  exact Ld
 ·rcases List.mem_append.1 hk with hk | hk
  ·exact M.sub k hk
  ·simp at hk; subst hk; exact univ_sig hm
 ·simp only [List.mem_append,List.mem_singleton] at hv
  rcases hv with hv | hv | hv | rfl
  ·exact M.flat v (.inl hv)
  ·exact M.flat v (.inr (.inl hv))
  ·exact M.flat v (.inr (.inr hv))
  ·exact flat_zeroSig
 ·rcases List.mem_append.1 ho with ho | ho
  ·exact M.sl o ho
  ·simp at ho; subst ho; exact hm
 ·have := M.big
  have := free_lt (univ_sig hm) hk
  unfold sigM at *
  simp only [List.length_append,List.length_singleton] at *
  omega
 ·have T2 : Stp (owL p [(d.nm,.map ver (numE d A.T))] ([⟨x.om,1,x.mv,A.ms⟩,⟨x.ou,1,x.uv,A.us⟩] ++ ⟨x.os,2,x.sv,A.gs⟩ :: [⟨x.oa,1,x.av,uo.map pvN⟩,⟨x.ob,1,x.bv,so.map pvN⟩])) σ (owL p [(d.nm,.map ver (numE d A.T))] ([⟨x.om,1,x.mv,A.ms⟩,⟨x.ou,1,x.uv,A.us⟩,⟨os',2,sv',A.gs ++ [zeroSig]⟩,⟨x.oa,1,x.av,uo.map pvN⟩] ++ ⟨ob',1,bv',so.map pvN ++ [pvN m]⟩ :: [])) σb := Ta.trans Tb
  refine Stp.trans T2 (Stp.trans (o' := ow d p ⟨x.om,x.ou,os',x.oa,ob',x.mv,x.uv,sv',x.av,bv'⟩) (σ' := σc) ?_ ?_)
  ·rw [ec]
   exact Stp.set (ow_p (d := d) (p := p) ⟨x.om,x.ou,os',x.oa,ob',x.mv,x.uv,sv',x.av,bv'⟩) _
  ·rw [ed]
   exact Stp.set (ow_p (d := d) (p := p) ⟨x.om,x.ou,os',x.oa,ob',x.mv,x.uv,sv',x.av,bv'⟩) _
theorem c64_step {n : Nat} (E : Env l d) (hP : ∀ m,n = m + 1 → P32 l d m) : P64 l d n := by
 intro p A uo so x σ m R M hn hm hR
 refine callW_fold ?_
 rw [fn64_eq]
 delta fn64 bF lF nI mF
 have ib : opC.vBoxAny (pvN m) = some (1,pvN m) := rfl
 have hnl : vNil (.ptr p 0 0 0) = some (.ptr p 0 0 0) := rfl
 simp only [ptr_box,ib,zz,Nat.zero_lt_one,newW_eq,List.append_assoc,List.cons_append,List.nil_append,List.length_append,List.length_singleton,Nat.reduceEqDiff]
 generalize hs5 : σ ++ [Blk.arr 0 1 [PV.ptr p 0 0 0],.arr 0 1 [pvN m]] = σ5
 have hpre : σ <+: σ5 := ⟨_,hs5⟩
 have hl5 : σ5.length = σ.length + 2 := by rw [← hs5]; simp
 have b1 : σ5[σ.length]? = some (.arr 0 1 [PV.ptr p 0 0 0]) := by rw [← hs5]; simp
 have b2 : σ5[σ.length + 1]? = some (.arr 0 1 [pvN m]) := by rw [← hs5]; simp
 have M5 : MS l d σ5 p A uo so x := M.pre hpre
 have lq1 : ∀ {τ : St},τ[σ.length]? = some (.arr 0 1 [PV.ptr p 0 0 0]) → vLoad false 1 (.ptr σ.length 0 0 0) τ = some (.ptr p 0 0 0) := fun h => load_cell h rfl rfl
 have lq2 : ∀ {τ : St},τ[σ.length + 1]? = some (.arr 0 1 [pvN m]) → vLoad false 1 (.ptr (σ.length + 1) 0 0 0) τ = some (pvN m) := fun h => load_cell h rfl rfl
 have h9 : vLoad false 1 (.ptr p 0 0 9) σ5 = some x.bv := M5.cell rfl
 have h7 : vLoad false 1 (.ptr p 0 0 7) σ5 = some x.sv := M5.cell rfl
 obtain ⟨v0,L0⟩ := M5.lay
 have hbv := L0.sl ⟨x.ob,1,x.bv,so.map pvN⟩ (by simp [S5])
 have hsv := L0.sl ⟨x.os,2,x.sv,A.gs⟩ (by simp [S5])
 have hsvl := hsv.len σ5
 simp only at hsvl
 have hgs := M.gs_small E
 have hso : so.length ≤ 2048 := by
  have h1 : (so.map (sigM l)).length = A.gs.length := by rw [M.ss,M.fit.g]
  rw [List.length_map] at h1
  omega
 simp only [lq1 b1,hnl,h9,zz,Nat.reduceEqDiff]
 refine (c106E encN (fun o => decide (sigM l o = sigM l m)) (v := x.bv) (g := 107) (k := 0) hbv.elems (by kernel_rfl) (by omega) (fun o ho => c107 M5.z E hm (M.sl o ho) (lq1 b1) (lq2 b2))).callB ?_
 rw [idx_key,M.ss]
 simp only [Nat.zero_add]
 by_cases hk : Key.sig (sigM l m).1 (sigM l m).2 ∈ A.T
 ·rw [if_pos (mem_sigsT.2 hk)]
  have hge : decide ((((sigsT A.T).idxOf (sigM l m) : Nat) : Int) ≥ 0) = true := decide_eq_true (by omega)
  simp only [hge,zz,Nat.reduceEqDiff]
  refine weakW_clean hpre (frz_same (.int _ _)) ?_
  exact hR A uo so x σ M (dfs_old hk n).symm (Grown.refl M.fit) (Stp.refl _ _)
 rw [if_neg (fun h => hk (mem_sigsT.1 h))]
 have hge : decide ((-1 : Int) ≥ 0) = false := rfl
 obtain ⟨n,rfl⟩ : ∃ n',n = n' + 1 := ⟨n - 1,by have := free_lt (univ_sig hm) hk; unfold sigM at *; simp only at *; omega⟩
 have hP32 := hP n rfl
 obtain ⟨sv',σa,bv',σb,σc,σd,x1,ha,hla,hb,hc,hd,M3,T3⟩ := M5.addG E hm hk
 have hq1 : σ.length ∉ ow d p x := fun h => by have := M.own_lt h; omega
 have hq2 : σ.length + 1 ∉ ow d p x := fun h => by have := M.own_lt h; omega
 have a1 : ∀ {s : Sl5},IsG σ5 s → (∀ b,s.o = some b → b ∈ ow d p x) → ∀ q,(q = σ.length ∨ q = σ.length + 1) → apartV (.v (.ptr q 0 0 0)) (blkP s.v) none = true := fun hs ho q hq => apart_ok fun b hb he => by
  have := M.own_lt (ho b (hs.blk hb))
  omega
 have e1 := a1 hsv (fun b hb => mem_ow (.inr (.inr (.inl hb)))) σ.length (.inl rfl)
 have e2 := a1 hsv (fun b hb => mem_ow (.inr (.inr (.inl hb)))) (σ.length + 1) (.inr rfl)
 have e3 := a1 hbv (fun b hb => mem_ow (.inr (.inr (.inr (.inr hb))))) σ.length (.inl rfl)
 have e4 := a1 hbv (fun b hb => mem_ow (.inr (.inr (.inr (.inr hb))))) (σ.length + 1) (.inr rfl)
 have hpl := M.own_lt (ow_p x)
 have e5 : ∀ o,apartV (.v (.ptr σ.length 0 0 0)) (blkP (.ptr p 0 0 o)) none = true := fun o => apart_ok fun b hb he => by cases hb; omega
 have e6 : ∀ o,apartV (.v (.ptr (σ.length + 1) 0 0 0)) (blkP (.ptr p 0 0 o)) none = true := fun o => apart_ok fun b hb he => by cases hb; omega
 have dq1 : σd[σ.length]? = some (.arr 0 1 [PV.ptr p 0 0 0]) := by rw [T3.frm _ (by omega) hq1]; exact b1
 have dq2 : σd[σ.length + 1]? = some (.arr 0 1 [pvN m]) := by rw [T3.frm _ (by omega) hq2]; exact b2
 have hbb0 : vBuild [(.int .i64 0),(.int .i64 0)] [] = some [PV.int .i64 0,.int .i64 0] := rfl
 have hbb1 : vBuildSl 2 (List.replicate 1 (.agg [(.int .i64 0),(.int .i64 0)])) [(0,(.agg [PV.int .i64 0,.int .i64 0]))] = some [zeroSig] := rfl
 have hbb2 : vBuildSl 1 (List.replicate 1 (.int .i64 0)) [(0,pvN m)] = some [pvN m] := rfl
 have eT : (true && true) = true := rfl
 have TT : Stp (ow d p x) σ (ow d p x1) σd := (Stp.pre hpre).trans T3
 generalize hA1 : ({ A with T := A.T ++ [.sig (sigM l m).1 (sigM l m).2],gs := A.gs ++ [zeroSig] } : LC) = A1 at M3
 have hA1T : A1.T = A.T ++ [.sig (sigM l m).1 (sigM l m).2] := by rw [← hA1]
 have hA1g : A1.gs = A.gs ++ [zeroSig] := by rw [← hA1]
 have hfree : free (univ l) A1.T ≤ n := by
  have := free_lt (univ_sig hm) hk
  rw [hA1T]
  unfold sigM at *
  simp only at *
  omega
 have hclos := univ_closed E.ok
 obtain ⟨hml,hmp⟩ := mem_procs.1 hm
 have hlast := proc_last E.ok hml hmp
 have n1 : σ.length ∉ ow d p x1 := fun h => by
  rcases T3.new _ h with h | h
  ·exact hq1 h
  ·omega
 have n2 : σ.length + 1 ∉ ow d p x1 := fun h => by
  rcases T3.new _ h with h | h
  ·exact hq2 h
  ·omega
 have hld := T3.len
 simp only [hge,lq1 b1,lq2 b2,hnl,h7,hsvl,h9,hbb0,hbb1,hbb2,e1,e2,e3,e4,eT,e5,e6,ha,hla,hb,hc,hd,lq1 dq1,lq2 dq2,zz,Nat.reduceEqDiff]
 refine ⟨?_,?_⟩
 all_goals
  refine (c109 M3.z E hm).callB ?_
  have i0 : vIndex 1 (.list .full [pvN (gix l m),pvN (lastE (mAtM l m))]) (.int .i64 0) = some (.eptr (pvN (gix l m)) 0) := rfl
  have i1 : vIndex 1 (.list .full [pvN (gix l m),pvN (lastE (mAtM l m))]) (.int .i64 1) = some (.eptr (pvN (lastE (mAtM l m))) 0) := rfl
  have pN : ∀ a : Nat,vPart false 1 (pvN a) 0 = some (pvN a) := fun a => rfl
  simp only [lq1 dq1,i0,pN,zz,Nat.reduceEqDiff]
  refine hP32 p A1 uo (so ++ [m]) x1 σd (gix l m) _ M3 hfree (gix_lt hm) fun B ub sb xb σ6 MB hBT hBG hBS => ?_
  rw [ndG_par hm] at hBT ⊢
  have hq6 : σ6[σ.length]? = some (.arr 0 1 [PV.ptr p 0 0 0]) := by rw [hBS.frm _ (by omega) n1]; exact dq1
  have n1' : σ.length ∉ ow d p xb := fun h => by
   rcases hBS.new _ h with h | h
   ·exact n1 h
   ·omega
  have n2' : σ.length + 1 ∉ ow d p xb := fun h => by
   rcases hBS.new _ h with h | h
   ·exact n2 h
   ·omega
  have hl6 := hBS.len
  show bindO False _ _
  simp only [lq1 hq6,i1,pN,zz,Nat.reduceEqDiff]
  refine hP32 p B ub sb xb σ6 (lastE (mAtM l m)) _ MB (Nat.le_trans (free_pre hBG.pre) hfree) (mode_lt_gN hlast) fun C uc sc xc σ7 MC hCT hCG hCS => ?_
  rw [ndG_mode hlast] at hCT ⊢
  have hq7 : σ7[σ.length]? = some (.arr 0 1 [PV.ptr p 0 0 0]) := by rw [hCS.frm _ (by omega) n1']; exact hq6
  have n1c : σ.length ∉ ow d p xc := fun h => by
   rcases hCS.new _ h with h | h
   ·exact n1' h
   ·omega
  have n2c : σ.length + 1 ∉ ow d p xc := fun h => by
   rcases hCS.new _ h with h | h
   ·exact n2' h
   ·omega
  have hG := hBG.trans hCG
  have hm1 : Key.node (repT l (l.length + m)) ∈ B.T := by
   rw [hBT]
   exact dfs_mem hclos n _ _ hfree (fun k hk => by simp at hk; subst hk; exact univ_rep (mem_gN.2 (.inr ⟨m,hm,rfl⟩))) _ (by simp)
  have hm2 : Key.node (repT l (lastE (mAtM l m))) ∈ C.T := by
   rw [hCT]
   exact dfs_mem hclos n _ _ (Nat.le_trans (free_pre hBG.pre) hfree) (fun k hk => by simp at hk; subst hk; exact univ_mode hlast) _ (by simp)
  have hr1 : rankK B.T (.node (repT l (l.length + m))) = rankK C.T (.node (repT l (l.length + m))) := (rank_pre hCG.pre hm1).symm
  show bindO False _ _
  have h7c : vLoad false 1 (.ptr p 0 0 7) σ7 = some xc.sv := MC.cell rfl
  obtain ⟨vc,LC'⟩ := MC.lay
  have hCl := hG.lg
  rw [hA1g] at hCl
  simp only [List.length_append,List.length_singleton] at hCl
  obtain ⟨bm,gm,hbo,hbk,hbix⟩ := LC'.index (L := [⟨xc.om,1,xc.mv,C.ms⟩,⟨xc.ou,1,xc.uv,C.us⟩]) (R := [⟨xc.oa,1,xc.av,uc.map pvN⟩,⟨xc.ob,1,xc.bv,sc.map pvN⟩]) (s := ⟨xc.os,2,xc.sv,C.gs⟩) (i := A.gs.length) (by show A.gs.length < C.gs.length; omega) .i64
  simp only at hbix hbk hbo
  have hCm : C.gs[A.gs.length]? = some zeroSig := by
   rw [hG.og _ (by rw [hA1g]; simp),hA1g]
   simp
  have hbd : ∀ a b : Nat,vBuild [(.int .i64 0),(.int .i64 0)] [(0,1,pvN a),(1,1,pvN b)] = some [pvN a,pvN b] := fun a b => rfl
  have hpu : ∀ a b : Nat,vPut 2 zeroSig 0 (.agg [pvN a,pvN b]) = some (.agg [pvN a,pvN b]) := fun a b => rfl
  obtain ⟨σ8,hst8,L8,T8⟩ := LC'.setI (L := [⟨xc.om,1,xc.mv,C.ms⟩,⟨xc.ou,1,xc.uv,C.us⟩]) (R := [⟨xc.oa,1,xc.av,uc.map pvN⟩,⟨xc.ob,1,xc.bv,sc.map pvN⟩]) (s := ⟨xc.os,2,xc.sv,C.gs⟩) hbo hbk hCm (hpu (rankK B.T (.node (repT l (l.length + m)))) (rankK C.T (.node (repT l (lastE (mAtM l m))))))
  have eI : ∀ q,(q = σ.length ∨ q = σ.length + 1) → apartV (.v (.ptr q 0 0 0)) (blkP (.ptr bm gm A.gs.length 0)) none = true := fun q hq => apart_ok fun b hb he => by
   cases hb
   have := mem_ow (d := d) (p := p) (x := xc) (b := bm) (.inr (.inr (.inl hbo)))
   rcases hq with rfl | rfl
   ·exact n1c (he ▸ this)
   ·exact n2c (he ▸ this)
  simp only [lq1 hq7,hnl,h7c,hbd,hbix,eI σ.length (.inl rfl),eI (σ.length + 1) (.inr rfl),eT,hst8,zz,Nat.reduceEqDiff]
  refine weakW_keep ?_
  have hdone : doneG (rwT l) C.T (.agg [pvN (rankK B.T (.node (repT l (l.length + m)))),pvN (rankK C.T (.node (repT l (lastE (mAtM l m)))))]) ((sigM l m).1,(sigM l m).2) := by
   refine ⟨fun k hk => ?_,?_⟩
   ·simp only [chR,List.mem_cons,List.not_mem_nil,or_false] at hk
    rcases hk with rfl | rfl
    ·exact hCG.pre.subset hm1
    ·exact hm2
   ·rw [hr1]
    rfl
  have hGG : Grown (rwT l) A { C with gs := C.gs.set A.gs.length (.agg [pvN (rankK B.T (.node (repT l (l.length + m)))),pvN (rankK C.T (.node (repT l (lastE (mAtM l m)))))]) } := by
   rw [← hA1] at hG
   exact hG.sig M.fit hdone
  have hCT' : C.T = dfs (chR (rwT l)) (n + 1) A.T [.sig (sigM l m).1 (sigM l m).2] := by
   rw [dfs_new hk,hCT,hBT,hA1T,← dfs_append]
   rfl
  have hrank : pvN (rankK C.T (.sig (sigM l m).1 (sigM l m).2)) = .int .i64 (A.gs.length : Int) := by
   have h1 : rankK C.T (.sig (sigM l m).1 (sigM l m).2) = A.gs.length := by
    rw [rank_pre hG.pre (k := .sig (sigM l m).1 (sigM l m).2) (by rw [hA1T]; simp),hA1T]
    show (sigsT (A.T ++ [Key.sig (sigM l m).1 (sigM l m).2])).idxOf (sigM l m) = _
    rw [sigsT_add_sig,List.idxOf_append,if_neg (fun h => hk (mem_sigsT.1 h)),M.fit.g]
    simp
   rw [h1]
   rfl
  have := hR _ uc sc xc σ8 ⟨⟨vc,L8⟩,hGG.fit,MC.sub,fun v hv => ?_,MC.uu,MC.ul,MC.ss,MC.sl,MC.big⟩ hCT' hGG (((TT.trans hBS).trans hCS).trans T8)
  ·simp only [hrank] at this
   exact this
  ·rcases hv with hv | hv | hv
   ·exact MC.flat v (.inl hv)
   ·exact MC.flat v (.inr (.inl hv))
   ·rcases List.mem_or_eq_of_mem_set hv with hv | rfl
    ·exact MC.flat v (.inr (.inr hv))
    ·refine .agg _ fun y hy => ?_
     simp only [List.mem_cons,List.not_mem_nil,or_false] at hy
     rcases hy with rfl | rfl <;> exact .int _ _
theorem meet_all (E : Env l d) : ∀ n,P32 l d n ∧ P128 l d n ∧ P64 l d n
 | 0 => ⟨c32_step E fun m h => by omega,c128_step E fun m h => by omega,c64_step E fun m h => by omega⟩
 | n + 1 => by
  have ih := meet_all E n
  refine ⟨c32_step E fun m h => ?_,c128_step E fun m h => ?_,c64_step E fun m h => ?_⟩
  all_goals obtain rfl : n = m := by omega
  ·exact ih
  ·exact ih.1
  ·exact ih.1
end
end Go.Proofs.YteikomnahelckaaGreatDoor

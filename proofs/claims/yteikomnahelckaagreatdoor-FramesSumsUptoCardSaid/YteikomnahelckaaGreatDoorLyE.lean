import Derived.Test.YteikomnahelckaaGreatDoorLyD
set_option linter.unusedVariables false
set_option linter.unusedSimpArgs false
namespace Go.Proofs.YteikomnahelckaaGreatDoor
open Go Go.Abs
theorem c106E {α : Type} {enc : α → PV} (E : EncOk enc false 1) {l : List α} (p : α → Bool) {v : PV} {g k : Nat} {caps : List PV} {σ : St} (hv : Elems σ 1 v (l.map enc)) (hf : hasBody g = true) (hl : l.length < 4611686018427387904) (h : ∀ a ∈ l,Ret W g (argsF k [enc a] caps) σ (.bool (p a))) :
  Ret W 106 [v,.func g k caps] σ (.int .i64 (idxOf p l 0)) := by
 refine ret_of fun R hR => ?_
 rw [fn106_eq]
 delta fn106 bF kF nI
 have hln := hv.len σ
 rw [List.length_map] at hln
 simp only [hln,zz,Nat.reduceEqDiff]
 refine Lfp_up l.length (fun i x σ' => x = lookP [(0,v),(1,.func g k caps),(7,.int .i64 l.length),(8,.int .i64 i)] ∧ σ' = σ ∧ (l.take i).all (fun a => !p a) = true) ?_ ⟨rfl,rfl,rfl⟩
 rintro Φ i x σ' hi ⟨rfl,rfl,hp⟩ next
 simp only [zz,Nat.reduceEqDiff]
 by_cases hlt : i < l.length
 ·have hc : l[i]? = some l[i] := by simp [hlt]
  have hmem : l[i] ∈ l := by simp
  generalize l[i] = a at hc hmem
  obtain ⟨cs,h1,h2⟩ := E.cells a
  obtain ⟨q,hq1,hq2,_⟩ := hv.at_ (i := i) (e := enc a) (k := .i64) (by rw [List.getElem?_map,hc]; rfl) h1 h2
  simp only [hlt,hq1,hq2,E.part,callG_func hf,zz,Nat.reduceEqDiff]
  refine (h _ hmem).callB ?_
  cases hpa : p a with
  | true =>
   simp only [zz,Nat.reduceEqDiff]
   refine weakW_keep ?_
   rw [idxOf_hit hc hpa hp] at hR
   simpa using hR
  | false =>
   simp only [zz,Nat.reduceEqDiff]
   rw [vBin_add _ (by omega) (by omega)]
   simp only [zz,Nat.reduceEqDiff]
   exact next _ _ hlt ⟨by simp,rfl,all_take_succ hp hc (by simp [hpa])⟩
 ·obtain rfl : i = l.length := by omega
  rw [List.take_length] at hp
  simp only [hlt,zz,Nat.reduceEqDiff]
  refine weakW_keep ?_
  rw [idxOf_none hp] at hR
  exact hR
theorem encN : EncOk pvN false 1 := ⟨fun a => ⟨_,rfl,rfl⟩,fun a => rfl⟩
theorem idx_key {β : Type} [BEq β] [LawfulBEq β] [DecidableEq β] {f : Nat → β} {c : β} : ∀ (uo : List Nat) (n : Nat),idxOf (fun o => decide (f o = c)) uo n = if c ∈ uo.map f then ((n + (uo.map f).idxOf c : Nat) : Int) else -1
 | [],n => rfl
 | o :: uo,n => by
  simp only [idxOf,List.map_cons]
  by_cases h : f o = c
  ·have e : ((f o :: uo.map f).idxOf c) = 0 := by rw [List.idxOf_cons,h]; simp
   rw [e]
   simp [h]
  ·have h0 : (f o == c) = false := beq_eq_false_iff_ne.2 h
   have e : ((f o :: uo.map f).idxOf c) = (uo.map f).idxOf c + 1 := by rw [List.idxOf_cons,h0]; rfl
   rw [e,idx_key uo (n + 1)]
   have hm : c ∈ f o :: uo.map f ↔ c ∈ uo.map f := by simp [Ne.symm h]
   by_cases hcm : c ∈ uo.map f
   ·rw [if_pos hcm,if_pos (hm.2 hcm)]
    simp [h]
    omega
   ·rw [if_neg hcm,if_neg (fun h => hcm (hm.1 h))]
    simp [h]
theorem apart_ok {q : Nat} {v : PV} (h : ∀ b,blkP v = some b → b ≠ q) : apartV (.v (.ptr q 0 0 0)) (blkP v) none = true := by
 unfold apartV
 cases hb : blkP v with
 | none => rfl
 | some b =>
  simp only
  have := h b hb
  cases hq : Nat.beq b q with
  | false => rfl
  | true => exact absurd (Nat.eq_of_beq_eq_true hq) this
theorem _root_.Go.Abs.IsG.blk {σ : St} {s : Sl5} (h : IsG σ s) {b : Nat} (hb : blkP s.v = some b) : s.o = some b := by
 rcases h with ⟨_,h2,_⟩ | ⟨c,g,h1,h2,_,_⟩
 ·rw [h2] at hb; cases hb
 ·rw [h2] at hb
  cases hb
  exact h1
section
variable {l : Tbl} {d : ED} {σ : St} {p : Nat} {A : LC} {uo so : List Nat} {x : OV}
theorem mem_ow {x : OV} {b : Nat} (h : x.om = some b ∨ x.ou = some b ∨ x.os = some b ∨ x.oa = some b ∨ x.ob = some b) : b ∈ ow d p x := by
 unfold ow owL ids S5
 simp only [List.mem_cons,List.mem_append,List.mem_filterMap]
 refine .inr (.inr ?_)
 rcases h with h | h | h | h | h
 ·exact ⟨_,.inl rfl,h⟩
 ·exact ⟨_,.inr (.inl rfl),h⟩
 ·exact ⟨_,.inr (.inr (.inl rfl)),h⟩
 ·exact ⟨_,.inr (.inr (.inr (.inl rfl))),h⟩
 ·exact ⟨_,.inr (.inr (.inr (.inr (.inl rfl)))),h⟩
theorem ow_p (x : OV) : p ∈ ow d p x := by simp [ow,owL]
theorem MS.addU (M : MS l d σ p A uo so x) (E : Env l d) {m : Nat} (hm : m < l.length) (hmu : unionK (mAtM l m) = true) (hk : Key.uni (uniM l m) ∉ A.T) :
  ∃ uv' σa av' σb σc σd x1,vAppend 1 24 x.uv (.list .full [.list .nil []]) σ = some (uv',σa) ∧ vLoad false 1 (.ptr p 0 0 8) σa = some x.av ∧ vAppend 1 8 x.av (.list .full [pvN m]) σa = some (av',σb) ∧ vStore 1 (.ptr p 0 0 6) uv' σb = some σc ∧ vStore 1 (.ptr p 0 0 8) av' σc = some σd ∧
   MS l d σd p { A with T := A.T ++ [.uni (uniM l m)],us := A.us ++ [.list .nil []] } (uo ++ [m]) so x1 ∧ Stp (ow d p x) σ (ow d p x1) σd := by
 obtain ⟨ver,ML⟩ := M.lay
 have hus := M.us_small E
 have huo : uo.length ≤ 2048 := by
  have h1 : (uo.map (uniM l)).length = A.us.length := by rw [M.uu,M.fit.u]
  rw [List.length_map] at h1
  omega
 obtain ⟨uv',σa,ou',ha,La,Ta⟩ := ML.app (L := [⟨x.om,1,x.mv,A.ms⟩]) (R := [⟨x.os,2,x.sv,A.gs⟩,⟨x.oa,1,x.av,uo.map pvN⟩,⟨x.ob,1,x.bv,so.map pvN⟩]) (s := ⟨x.ou,1,x.uv,A.us⟩) (by_ := 24) (k := .full) (y := .list .nil []) (ys := [])
  (fun z hz => by simp at hz; subst hz; exact ⟨_,rfl,rfl⟩) (by simp; omega)
 obtain ⟨av',σb,oa',hb,Lb,Tb⟩ := La.app (L := [⟨x.om,1,x.mv,A.ms⟩,⟨ou',1,uv',A.us ++ [.list .nil []]⟩,⟨x.os,2,x.sv,A.gs⟩]) (R := [⟨x.ob,1,x.bv,so.map pvN⟩]) (s := ⟨x.oa,1,x.av,uo.map pvN⟩) (by_ := 8) (k := .full) (y := pvN m) (ys := [])
  (fun z hz => by simp at hz; subst hz; exact ⟨_,rfl,rfl⟩) (by simp; omega)
 obtain ⟨σc,hc,Lc,ec⟩ := Lb.put (j := 1) (by simp [OV.cv]) (v := uv') ((Lb.sl ⟨ou',1,uv',A.us ++ [.list .nil []]⟩ (by simp)).cell)
 obtain ⟨σd,hd,Ld,ed⟩ := Lc.put (j := 3) (by simp [OV.cv]) (v := av') ((Lc.sl ⟨oa',1,av',uo.map pvN ++ [pvN m]⟩ (by simp)).cell)
 refine ⟨uv',σa,av',σb,σc,σd,⟨x.om,ou',x.os,oa',x.ob,x.mv,uv',x.sv,av',x.bv⟩,ha,La.load rfl,hb,hc,hd,⟨⟨ver,?_⟩,⟨by rw [nodesT_add_uni]; exact M.fit.m,by simp [unisT_add_uni,M.fit.u],by rw [sigsT_add_uni]; exact M.fit.g⟩,fun k hk => ?_,fun v hv => ?_,by rw [unisT_add_uni,List.map_append,M.uu]; rfl,fun o ho => ?_,by rw [sigsT_add_uni]; exact M.ss,M.sl,?_⟩,?_⟩
 ·have e : numE d (A.T ++ [.uni (uniM l m)]) = numE d A.T := by unfold numE; rw [nodesT_add_uni]
  simp only [e]
  have e2 : (uo ++ [m]).map pvN = uo.map pvN ++ [pvN m] := by simp
  unfold S5
  simp only [e2]
  exact Ld
 ·rcases List.mem_append.1 hk with hk | hk
  ·exact M.sub k hk
  ·simp at hk; subst hk; exact univ_uni hm
 ·simp only [List.mem_append,List.mem_singleton] at hv
  rcases hv with hv | (hv | rfl) | hv
  ·exact M.flat v (.inl hv)
  ·exact M.flat v (.inr (.inl hv))
  ·exact .list _ _ (by simp)
  ·exact M.flat v (.inr (.inr hv))
 ·rcases List.mem_append.1 ho with ho | ho
  ·exact M.ul o ho
  ·simp at ho; subst ho; exact ⟨hm,hmu⟩
 ·have := M.big
  have := free_lt (univ_uni hm) hk
  unfold uniM at *
  simp only [List.length_append,List.length_singleton]
  omega
 ·have T2 : Stp (owL p [(d.nm,.map ver (numE d A.T))] ([⟨x.om,1,x.mv,A.ms⟩] ++ ⟨x.ou,1,x.uv,A.us⟩ :: [⟨x.os,2,x.sv,A.gs⟩,⟨x.oa,1,x.av,uo.map pvN⟩,⟨x.ob,1,x.bv,so.map pvN⟩])) σ (owL p [(d.nm,.map ver (numE d A.T))] ([⟨x.om,1,x.mv,A.ms⟩,⟨ou',1,uv',A.us ++ [.list .nil []]⟩,⟨x.os,2,x.sv,A.gs⟩] ++ ⟨oa',1,av',uo.map pvN ++ [pvN m]⟩ :: [⟨x.ob,1,x.bv,so.map pvN⟩])) σb := Ta.trans Tb
  refine Stp.trans T2 (Stp.trans (o' := ow d p ⟨x.om,ou',x.os,oa',x.ob,x.mv,uv',x.sv,av',x.bv⟩) (σ' := σc) ?_ ?_)
  ·rw [ec]
   exact Stp.set (ow_p (d := d) (p := p) ⟨x.om,ou',x.os,oa',x.ob,x.mv,uv',x.sv,av',x.bv⟩) _
  ·rw [ed]
   exact Stp.set (ow_p (d := d) (p := p) ⟨x.om,ou',x.os,oa',x.ob,x.mv,uv',x.sv,av',x.bv⟩) _
theorem c128_step {n : Nat} (E : Env l d) (hP : ∀ m,n = m + 1 → P32 l d m) : P128 l d n := by
 intro p A uo so x σ m R M hn hm hmu hR
 refine callW_fold ?_
 rw [fn128_eq]
 delta fn128 bF lF kF nI nL mF
 have ib : opC.vBoxAny (pvN m) = some (1,pvN m) := rfl
 have hnl : vNil (.ptr p 0 0 0) = some (.ptr p 0 0 0) := rfl
 simp only [ptr_box,ib,zz,Nat.zero_lt_one,newW_eq,List.append_assoc,List.cons_append,List.nil_append,List.length_append,List.length_singleton,Nat.reduceEqDiff]
 generalize hs5 : σ ++ [Blk.arr 0 1 [PV.ptr p 0 0 0],.arr 0 1 [pvN m]] = σ5
 have hpre : σ <+: σ5 := ⟨_,hs5⟩
 have hl5 : σ5.length = σ.length + 2 := by rw [← hs5]; simp
 have b1 : σ5[σ.length]? = some (.arr 0 1 [PV.ptr p 0 0 0]) := by rw [← hs5]; simp
 have b2 : σ5[σ.length + 1]? = some (.arr 0 1 [pvN m]) := by rw [← hs5]; simp
 have M5 : MS l d σ5 p A uo so x := M.pre hpre
 have lq1 : ∀ {τ : St},τ[σ.length]? = some (.arr 0 1 [PV.ptr p 0 0 0]) → vLoad false 1 (.ptr σ.length 0 0 0) τ = some (.ptr p 0 0 0) := fun h => load_cell h rfl rfl
 have lq2 : ∀ {τ : St},τ[σ.length + 1]? = some (.arr 0 1 [pvN m]) → vLoad false 1 (.ptr (σ.length + 1) 0 0 0) τ = some (pvN m) := fun h => load_cell h rfl rfl
 have h8 : vLoad false 1 (.ptr p 0 0 8) σ5 = some x.av := M5.cell rfl
 have h6 : vLoad false 1 (.ptr p 0 0 6) σ5 = some x.uv := M5.cell rfl
 obtain ⟨v0,L0⟩ := M5.lay
 have hav := L0.sl ⟨x.oa,1,x.av,uo.map pvN⟩ (by simp [S5])
 have huv := L0.sl ⟨x.ou,1,x.uv,A.us⟩ (by simp [S5])
 have huvl := huv.len σ5
 simp only at huvl
 have hus := M.us_small E
 have huo : uo.length ≤ 2048 := by
  have h1 : (uo.map (uniM l)).length = A.us.length := by rw [M.uu,M.fit.u]
  rw [List.length_map] at h1
  omega
 simp only [lq1 b1,hnl,h8,zz,Nat.reduceEqDiff]
 refine (c106E encN (fun o => decide (uniM l o = uniM l m)) (v := x.av) (g := 195) (k := 0) hav.elems (by kernel_rfl) (by omega) (fun o ho => c195 M5.z E hm hmu (M.ul o ho).1 (M.ul o ho).2 (lq1 b1) (lq2 b2))).callB ?_
 rw [idx_key,M.uu]
 simp only [Nat.zero_add]
 by_cases hk : Key.uni (uniM l m) ∈ A.T
 ·rw [if_pos (mem_unisT.2 hk)]
  have hge : decide ((((unisT A.T).idxOf (uniM l m) : Nat) : Int) ≥ 0) = true := decide_eq_true (by omega)
  simp only [hge,zz,Nat.reduceEqDiff]
  refine weakW_clean hpre (frz_same (.int _ _)) ?_
  exact hR A uo so x σ M (dfs_old hk n).symm (Grown.refl M.fit) (Stp.refl _ _)
 rw [if_neg (fun h => hk (mem_unisT.1 h))]
 have hge : decide ((-1 : Int) ≥ 0) = false := rfl
 obtain ⟨n,rfl⟩ : ∃ n',n = n' + 1 := ⟨n - 1,by have := free_lt (univ_uni hm) hk; unfold uniM at *; omega⟩
 have hP32 := hP n rfl
 obtain ⟨uv',σa,av',σb,σc,σd,x1,ha,hla,hb,hc,hd,M3,T3⟩ := M5.addU E hm hmu hk
 have hq1 : σ.length ∉ ow d p x := fun h => by have := M.own_lt h; omega
 have hq2 : σ.length + 1 ∉ ow d p x := fun h => by have := M.own_lt h; omega
 have a1 : ∀ {s : Sl5},IsG σ5 s → (∀ b,s.o = some b → b ∈ ow d p x) → ∀ q,(q = σ.length ∨ q = σ.length + 1) → apartV (.v (.ptr q 0 0 0)) (blkP s.v) none = true := fun hs ho q hq => apart_ok fun b hb he => by
  have := M.own_lt (ho b (hs.blk hb))
  omega
 have e1 := a1 huv (fun b hb => mem_ow (.inr (.inl hb))) σ.length (.inl rfl)
 have e2 := a1 huv (fun b hb => mem_ow (.inr (.inl hb))) (σ.length + 1) (.inr rfl)
 have e3 := a1 hav (fun b hb => mem_ow (.inr (.inr (.inr (.inl hb))))) σ.length (.inl rfl)
 have e4 := a1 hav (fun b hb => mem_ow (.inr (.inr (.inr (.inl hb))))) (σ.length + 1) (.inr rfl)
 have hpl := M.own_lt (ow_p x)
 have e5 : ∀ o,apartV (.v (.ptr σ.length 0 0 0)) (blkP (.ptr p 0 0 o)) none = true := fun o => apart_ok fun b hb he => by cases hb; omega
 have e6 : ∀ o,apartV (.v (.ptr (σ.length + 1) 0 0 0)) (blkP (.ptr p 0 0 o)) none = true := fun o => apart_ok fun b hb he => by cases hb; omega
 have dq1 : σd[σ.length]? = some (.arr 0 1 [PV.ptr p 0 0 0]) := by rw [T3.frm _ (by omega) hq1]; exact b1
 have dq2 : σd[σ.length + 1]? = some (.arr 0 1 [pvN m]) := by rw [T3.frm _ (by omega) hq2]; exact b2
 have d3 : vLoad false 1 (.ptr p 0 0 3) σd = some (.mref d.qm) := M3.cell rfl
 obtain ⟨kp,hlk⟩ : ∃ k,vLookup .int (.list .nil []) false (.mref d.qm) (pvN m) σd = some (.list k ((mAtM l m).elems.2.map pvI)) := by
  obtain ⟨i,k,hf⟩ := E.prt m hm hmu
  refine ⟨k,?_⟩
  have hqb : σd[d.qm]? = some (.map d.qv d.qes) := by
   obtain ⟨ver,h⟩ := M3.lay
   exact h.fs (d.qm,.map d.qv d.qes) (by simp [ED.F])
  have hk : isKey .int (pvN m) = true := rfl
  simp only [vLookup,hqb,hk,if_true,hf]
  rfl
 have hbb1 : vBuildSl 1 (List.replicate 1 (.list .nil [])) [(0,(.list .nil []))] = some [PV.list .nil []] := rfl
 have hbb2 : vBuildSl 1 (List.replicate 1 (.int .i64 0)) [(0,pvN m)] = some [pvN m] := rfl
 have eT : (true && true) = true := rfl
 have TT : Stp (ow d p x) σ (ow d p x1) σd := (Stp.pre hpre).trans T3
 generalize hA1 : ({ A with T := A.T ++ [.uni (uniM l m)],us := A.us ++ [.list .nil []] } : LC) = A1 at M3
 have hA1T : A1.T = A.T ++ [.uni (uniM l m)] := by rw [← hA1]
 have hA1u : A1.us = A.us ++ [.list .nil []] := by rw [← hA1]
 have hfree : free (univ l) A1.T ≤ n := by
  have := free_lt (univ_uni hm) hk
  rw [hA1T]
  unfold uniM
  omega
 have hclos := univ_closed E.ok
 have hel : ∀ e ∈ (mAtM l m).elems.2,e = ((e.toNat : Nat) : Int) ∧ e.toNat < l.length := fun e he => E.elems hm he
 have hbd := bd_elems E.ok hm
 have helN : uniM l m = (mAtM l m).elems.2.map fun e => repT l e.toNat := by unfold uniM elemsN; rw [List.map_map]; rfl
 generalize hes : (mAtM l m).elems.2 = es at hlk hel hbd helN
 have hchs : ∀ i,∀ k ∈ (es.take i).map (fun e => Key.node (repT l e.toNat)),k ∈ univ l := by
  intro i k hk
  obtain ⟨e,he,rfl⟩ := List.mem_map.1 hk
  exact univ_mode (hel e (List.mem_of_mem_take he)).2
 simp only [hge,lq1 b1,lq2 b2,hnl,h6,huvl,h8,hbb1,hbb2,e1,e2,e3,e4,eT,e5,e6,ha,hla,hb,hc,hd,lq1 dq1,lq2 dq2,d3,hlk,List.length_map,zz,Nat.reduceEqDiff]
 refine ⟨?_,?_⟩
 all_goals
  refine Lfp_up es.length (fun i z σ' => ∃ (B : LC) (ub sb : List Nat) (xb : OV) (oo : Option Nat) (ov : PV),z = lookP [(2,.ptr σ.length 0 0 0),(5,.int .i64 (A.us.length : Int)),(6,ov),(47,.list kp (es.map pvI)),(48,.int .i64 es.length),(49,.int .i64 i)] ∧
    MS l d σ' p B ub sb xb ∧ B.T = dfs (chR (rwT l)) n A1.T ((es.take i).map (fun e => Key.node (repT l e.toNat))) ∧ Grown (rwT l) A1 B ∧ Stp (ow d p x) σ (ow d p xb) σ' ∧
    σ'[σ.length]? = some (.arr 0 1 [PV.ptr p 0 0 0]) ∧ σ.length ∉ ow d p xb ∧ σ5.length ≤ σ'.length ∧
    IsG σ' ⟨oo,1,ov,(es.take i).map fun e => pvN (rankK B.T (.node (repT l e.toNat)))⟩ ∧ ∀ b,oo = some b → σ5.length ≤ b ∧ b ∉ ow d p xb) ?_
   ⟨A1,uo ++ [m],so,x1,none,.list .nil [],rfl,M3,by rw [List.take_zero,List.map_nil,dfs_nil],Grown.refl M3.fit,TT,dq1,fun h => by
    rcases T3.new _ h with h | h
    ·exact hq1 h
    ·omega,T3.len,.inl ⟨rfl,rfl,rfl⟩,fun b hb => by cases hb⟩
  rintro Φ i z σ' hi ⟨B,ub,sb,xb,oo,ov,rfl,MB,hBT,hBG,hBS,hbox,hbn,hbl,hout,hoo⟩ next
  simp only [zz,Nat.reduceEqDiff]
  have eA : ∀ o,apartV (.v PV.any) o none = true := fun o => rfl
  have eO : apartV (.v (.ptr σ.length 0 0 0)) (blkP ov) none = true := apart_ok fun b hb he => by
   have := (hoo b (hout.blk hb)).1
   omega
  by_cases hlt : i < es.length
  ·have hc : es[i]? = some es[i] := by simp [hlt]
   have hqm : es[i] ∈ es := by simp
   generalize es[i] = e at hc hqm
   obtain ⟨ee,el⟩ := hel e hqm
   have hpe : pvI e = pvN e.toNat := by unfold pvN; rw [← ee]
   have hfB : free (univ l) B.T ≤ n := Nat.le_trans (free_pre hBG.pre) hfree
   simp only [hlt,encInt.index hc,encInt.part,lq1 hbox,hpe,zz,Nat.reduceEqDiff]
   refine hP32 p B ub sb xb σ' e.toNat _ MB hfB (mode_lt_gN el) fun B' ub' sb' xb' σ2' MB' hT' hG' hS' => ?_
   rw [ndG_mode el] at hT' ⊢
   show bindO False _ _
   have hbs : vBuildSl 1 (List.replicate 1 (.int .i64 0)) [(0,pvN (rankK B'.T (.node (repT l e.toNat))))] = some [pvN (rankK B'.T (.node (repT l e.toNat)))] := rfl
   have hbl' : σ'.length ≤ σ2'.length := hS'.len
   have hout' : IsG σ2' ⟨oo,1,ov,(es.take i).map fun e => pvN (rankK B'.T (.node (repT l e.toNat)))⟩ := by
    have e : ((es.take i).map fun e => pvN (rankK B'.T (.node (repT l e.toNat)))) = (es.take i).map fun e => pvN (rankK B.T (.node (repT l e.toNat))) := by
     refine List.map_congr_left fun q' hq' => ?_
     have hkB : Key.node (repT l q'.toNat) ∈ B.T := by
      rw [hBT]
      exact dfs_mem hclos n _ _ hfree (hchs i) _ (List.mem_map.2 ⟨q',hq',rfl⟩)
     rw [rank_pre hG'.pre hkB]
    rw [e]
    exact hout.to fun b hb => hS'.frm b (hout.id hb) (hoo b hb).2
   have hoo' : ∀ b,oo = some b → σ5.length ≤ b ∧ b ∉ ow d p xb' := fun b hb => ⟨(hoo b hb).1,fun hm' => by
    rcases hS'.new b hm' with h | h
    ·exact (hoo b hb).2 h
    ·have := hout.id hb
     omega⟩
   have hbox' : σ2'[σ.length]? = some (.arr 0 1 [PV.ptr p 0 0 0]) := by rw [hS'.frm _ (by omega) hbn]; exact hbox
   have hbn' : σ.length ∉ ow d p xb' := fun h => by
    rcases hS'.new _ h with h | h
    ·exact hbn h
    ·omega
   obtain ⟨ov',σ3',o3,hap,hI3,ho3,hfr3,hlen3⟩ := hout'.app1 (by_ := 8) (k := .full) (y := pvN (rankK B'.T (.node (repT l e.toNat)))) ⟨_,rfl,rfl⟩ (by simp only [List.length_map,List.length_take]; omega)
   simp only at hap
   simp only [hbs,eO,eA,eT,hap,zz,Nat.reduceEqDiff]
   rw [vBin_add _ (by omega) (by omega)]
   simp only [zz,Nat.reduceEqDiff]
   have M3' : MS l d σ3' p B' ub' sb' xb' := MB'.to (fun b hb => hfr3 b (fun e => (hoo' b e).2 hb) (MB'.own_lt hb)) (fun b hb => hfr3 b (fun e => by have := (hoo' b e).1; have := M.F_lt hb; omega) (MB'.F_lt hb))
   refine next _ _ hlt ⟨B',ub',sb',xb',o3,ov',rfl,M3',?_,hBG.trans hG',?_,?_,hbn',by omega,?_,?_⟩
   ·rw [hT',hBT,← dfs_append,List.take_add_one,hc,List.map_append]
    rfl
   ·refine ⟨Nat.le_trans (hBS.trans hS').len hlen3,fun b hb hbo => ?_,(hBS.trans hS').new,(hBS.trans hS').old⟩
    rw [hfr3 b (fun e => by have := (hoo' b e).1; omega) (by have := (hBS.trans hS').len; omega)]
    exact (hBS.trans hS').frm b hb hbo
   ·rw [hfr3 _ (fun e => by have := (hoo' _ e).1; omega) (by omega)]
    exact hbox'
   ·rw [List.take_add_one,hc,List.map_append]
    exact hI3
   ·intro b hb
    rcases ho3 b hb with h | rfl
    ·exact hoo' b h
    ·refine ⟨by omega,fun hm' => ?_⟩
     have := MB'.own_lt hm'
     omega
  ·obtain rfl : i = es.length := by omega
   rw [List.take_length] at hBT hout
   have hTB : B.T = dfs (chR (rwT l)) (n + 1) A.T [.uni (uniM l m)] := by
    rw [dfs_new hk,hBT,hA1T]
    congr 1
    show _ = (uniM l m).map Key.node
    rw [helN,List.map_map]
    rfl
   have h6b : vLoad false 1 (.ptr p 0 0 6) σ' = some xb.uv := MB.cell rfl
   obtain ⟨vb,LB⟩ := MB.lay
   have hBl := hBG.lu
   rw [hA1u] at hBl
   simp only [List.length_append,List.length_singleton] at hBl
   obtain ⟨bm,gm,hbo,hbk,hbix⟩ := LB.index (L := [⟨xb.om,1,xb.mv,B.ms⟩]) (R := [⟨xb.os,2,xb.sv,B.gs⟩,⟨xb.oa,1,xb.av,ub.map pvN⟩,⟨xb.ob,1,xb.bv,sb.map pvN⟩]) (s := ⟨xb.ou,1,xb.uv,B.us⟩) (i := A.us.length) (by show A.us.length < B.us.length; omega) .i64
   simp only at hbix hbk hbo
   have hBm : B.us[A.us.length]? = some (PV.list .nil []) := by
    rw [hBG.ou _ (by rw [hA1u]; simp),hA1u]
    simp
   have hpu : vPut 1 (PV.list .nil []) 0 ov = some ov := by
    have := hout.cell
    simp only at this
    simp [vPut,this]
   obtain ⟨σ4,hst4,L4,T4⟩ := LB.setI (L := [⟨xb.om,1,xb.mv,B.ms⟩]) (R := [⟨xb.os,2,xb.sv,B.gs⟩,⟨xb.oa,1,xb.av,ub.map pvN⟩,⟨xb.ob,1,xb.bv,sb.map pvN⟩]) (s := ⟨xb.ou,1,xb.uv,B.us⟩) hbo hbk hBm hpu
   have eI : apartV (.v (.ptr σ.length 0 0 0)) (blkP (.ptr bm gm A.us.length 0)) none = true := apart_ok fun b hb he => by
    cases hb
    exact hbn (he ▸ mem_ow (.inr (.inl hbo)))
   simp only [hlt,lq1 hbox,hnl,h6b,hbix,eI,eA,eT,hst4,zz,Nat.reduceEqDiff]
   have hS4 : Stp (ow d p x) σ (ow d p xb) σ4 := hBS.trans T4
   have hout4 : IsG σ4 ⟨oo,1,ov,es.map fun e => pvN (rankK B.T (.node (repT l e.toNat)))⟩ := hout.to fun b hb => T4.frm b (hout.id hb) (hoo b hb).2
   have hfl : ∀ y ∈ es.map fun e => pvN (rankK B.T (.node (repT l e.toNat))),Flat y := fun y hy => by
    obtain ⟨q,_,rfl⟩ := List.mem_map.1 hy
    exact .int _ _
   obtain ⟨kg,hkg,hkn⟩ := growV_ok (es.map fun e => pvN (rankK B.T (.node (repT l e.toNat))))
   have hDow : ∀ b ∈ ow d p xb,¬ (σ.length ≤ b ∧ b ∉ ow d p xb) := fun b hb h => h.2 hb
   have hDF : ∀ b ∈ d.F.map (·.1),¬ (σ.length ≤ b ∧ b ∉ ow d p xb) := fun b hb h => by have := M.F_lt hb; omega
   obtain ⟨σ6,K5,L5,T5⟩ := L4.kill (σ₀ := σ) (o₀ := ow d p x) (L := [⟨xb.om,1,xb.mv,B.ms⟩]) (R := [⟨xb.os,2,xb.sv,B.gs⟩,⟨xb.oa,1,xb.av,ub.map pvN⟩,⟨xb.ob,1,xb.bv,sb.map pvN⟩]) (s := ⟨xb.ou,1,xb.uv,B.us.set A.us.length ov⟩)
    hS4 (D := fun b => σ.length ≤ b ∧ b ∉ ow d p xb) (fun b => Iff.rfl) (MB.cells_free E hDow hDF) (fun y hy => by simp at hy; subst hy; exact numE_frz d B.T vb _ _) (fun y hy => M.F_lt (List.mem_map.2 ⟨y,hy,rfl⟩))
    (fun t ht y hy => by
     simp only [List.not_mem_nil,List.mem_cons,or_false,false_or] at ht
     rcases ht with rfl | rfl | rfl | rfl
     ·exact (MB.flat y (.inl hy)).free _
     ·exact (MB.flat y (.inr (.inr hy))).free _
     ·exact (flat_pvNs _ y hy).free _
     ·exact (flat_pvNs _ y hy).free _)
    (xs' := B.us.set A.us.length (growV (es.map fun e => pvN (rankK B.T (.node (repT l e.toNat)))))) (by simp)
    (fun j a b ha hb => by
     simp only at ha hb
     rw [List.getElem?_set] at ha hb
     by_cases hj : A.us.length = j
     ·rw [if_pos hj] at ha hb
      subst hj
      rw [if_pos (by omega)] at ha hb
      cases ha; cases hb
      exact isG_frz hout4 (fun b hb => ⟨by have := (hoo b hb).1; omega,(hoo b hb).2⟩) hfl
     ·rw [if_neg hj] at ha hb
      rw [ha] at hb
      cases hb
      exact (MB.flat a (.inr (.inl (List.mem_of_getElem? ha)))).frz _ _)
   generalize hgv : growV (es.map fun e => pvN (rankK B.T (.node (repT l e.toNat)))) = gv at L5 T5 hkg
   have hmet : MetK (rwT l) B.T (.uni (uniM l m)) := by
    intro k hk
    simp only [chR] at hk
    rw [helN,List.map_map] at hk
    rw [hBT]
    refine dfs_mem hclos n _ _ hfree (fun k hk => ?_) k hk
    have := hchs es.length k
    rw [List.take_length] at this
    exact this hk
   have hdone : doneU (rwT l) B.T gv (uniM l m) := by
    refine ⟨hmet,kg,?_,fun h => ?_⟩
    ·unfold contU
     rw [helN,hkg,List.map_map,List.map_map]
     rfl
    ·rw [helN]
     simpa using hkn h
   have hG : Grown (rwT l) A { B with us := B.us.set A.us.length gv } := by
    rw [← hA1] at hBG
    exact hBG.uni M.fit hdone
   refine weakW_kill (v' := .int .i64 (A.us.length : Int)) _ K5 (.base _ (.int _ _)) ?_
   have hrank : pvN (rankK B.T (.uni (uniM l m))) = .int .i64 (A.us.length : Int) := by
    have h1 : rankK B.T (.uni (uniM l m)) = A.us.length := by
     rw [rank_pre hBG.pre (k := .uni (uniM l m)) (by rw [hA1T]; simp),hA1T]
     show (unisT (A.T ++ [Key.uni (uniM l m)])).idxOf (uniM l m) = _
     rw [unisT_add_uni,List.idxOf_append,if_neg (fun h => hk (mem_unisT.1 h)),M.fit.u]
     simp
    rw [h1]
    rfl
   have := hR { B with us := B.us.set A.us.length gv } ub sb xb σ6 ⟨⟨vb,L5⟩,hG.fit,MB.sub,fun v hv => ?_,MB.uu,MB.ul,MB.ss,MB.sl,MB.big⟩ hTB hG T5
   ·simp only [hrank] at this
    exact this
   ·rcases hv with hv | hv | hv
    ·exact MB.flat v (.inl hv)
    ·rcases List.mem_or_eq_of_mem_set hv with hv | rfl
     ·exact MB.flat v (.inr (.inl hv))
     ·rw [hkg]
      exact .list _ _ hfl
    ·exact MB.flat v (.inr (.inr hv))
end
end Go.Proofs.YteikomnahelckaaGreatDoor

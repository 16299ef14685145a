import Derived.Test.YtgghfcchanilpaaGreatDoorSpRe
set_option linter.unusedVariables false
set_option linter.unusedSimpArgs false
namespace Go.Proofs.YtgghfcchanilpaaGreatDoor
open Go Go.Abs
theorem pBind_assoc {α β γ : Type} (p : Pa α) (f : α → Pa β) (g : β → Pa γ) : pBind (pBind p f) g = pBind p fun a => pBind (f a) g := by
 funext s
 unfold pBind
 cases p s with
 | error e => rfl
 | ok x => rfl
theorem pBind_ret {α β : Type} (a : α) (f : α → Pa β) : pBind (pRet a) f = f a := rfl
def mkRout (l : List Int) (rs : List RangeS) : RoutL := match l with
 | [a,b,c,d,e,f,g,h] => ⟨a,b,c,d,e,f,g,h,rs⟩
 | _ => ⟨0,0,0,0,0,0,0,0,rs⟩
def mkInst (l : List Int) : InstS := match l with
 | [a,b,c,d,e,f,g,h,i,j,k,m] => ⟨a,⟨b,c,d⟩,⟨e,f,g⟩,⟨h,i,j⟩,k,m⟩
 | _ => zeroI
theorem rout_rep : pRout1 = pBind (pRep pNum 8) fun l => pBind (pList pRange1) fun rs => pRet (mkRout l rs) := by
 simp only [pRep,pBind_assoc,pBind_ret]
 rfl
theorem inst_rep : pInst1 = pBind (pRep pNum 12) fun l => pRet (mkInst l) := by
 simp only [pInst1,pOper1,pRep,pBind_assoc,pBind_ret]
 rfl
def pvRoutL (r : RoutL) : PV := .agg [.int .i64 r.sig,.int .i64 r.frame,.int .i64 r.fr,.int .i64 r.to,.int .i64 r.outer,.int .i64 r.within,.int .i64 r.level,.int .i64 r.needs,growV (r.ranges.map pvRange)]
theorem flatSlot (s : SlotS) : Flat (pvSlot s) := .agg _ fun x h => by
 simp only [List.mem_cons,List.not_mem_nil,or_false] at h
 rcases h with rfl | rfl | rfl | rfl | rfl <;> constructor
theorem flatSig (s : Int × Int) : Flat (pvSig s) := .agg _ fun x h => by
 simp only [List.mem_cons,List.not_mem_nil,or_false] at h
 rcases h with rfl | rfl <;> constructor
theorem flatRange (s : RangeS) : Flat (pvRange s) := .agg _ fun x h => by
 simp only [List.mem_cons,List.not_mem_nil,or_false] at h
 rcases h with rfl | rfl | rfl <;> constructor
theorem flatTrans (s : TransS) : Flat (pvTrans s) := .agg _ fun x h => by
 simp only [List.mem_cons,List.not_mem_nil,or_false] at h
 rcases h with rfl | rfl | rfl <;> constructor
theorem flatInst (s : InstS) : Flat (pvInst s) := .agg _ fun x h => by
 simp only [List.mem_cons,List.not_mem_nil,or_false] at h
 rcases h with rfl | rfl | rfl | rfl | rfl | rfl | rfl | rfl | rfl | rfl | rfl | rfl <;> constructor
theorem flat_map {α : Type} {enc : α → PV} (h : ∀ a,Flat (enc a)) (l : List α) : Flat (growV (l.map enc)) := flat_grow fun y hy => by
 obtain ⟨a,_,rfl⟩ := List.mem_map.1 hy
 exact h a
theorem flatRout (r : RoutL) : Flat (pvRoutL r) := .agg _ fun x h => by
 simp only [List.mem_cons,List.not_mem_nil,or_false] at h
 rcases h with rfl | rfl | rfl | rfl | rfl | rfl | rfl | rfl | rfl
 iterate 8 exact .int _ _
 exact flat_map flatRange _
theorem sized_grow (ys : List PV) : Sized 1 (growV ys) := by
 obtain ⟨k,e⟩ := growV_list ys
 rw [e]
 exact ⟨_,rfl,rfl⟩
theorem grow_cells (ys : List PV) : (growV ys).cells? = some [growV ys] := by
 obtain ⟨k,e⟩ := growV_list ys
 rw [e]
 rfl
theorem put_mid {L R : List PV} {z x : PV} {n : Nat} (hn : L.length = n) (hx : x.cells? = some [x]) : vPut 1 (.agg (L ++ z :: R)) n x = some (.agg (L ++ x :: R)) := by
 subst hn
 simp [vPut,hx,setRange]
theorem new_put {A : St} {sz w o n : Nat} {cs cs' : List PV} {x : PV} (hn : A.length = n) (h : vPut w (.agg cs) o x = some (.agg cs')) : vStore w (.ptr n 0 0 o) x (A ++ [.arr 0 sz [.agg cs]]) = some (A ++ [.arr 0 sz [.agg cs']]) := by
 subst hn
 simp [vStore,h]
theorem new_load {A : St} {sz n : Nat} {cs : List PV} (hn : A.length = n) (h : cs.length = sz) : vLoad true sz (.ptr n 0 0 0) (A ++ [.arr 0 sz [.agg cs]]) = some (.agg cs) := by
 subst hn
 simp [vLoad,vPart,h]
theorem rdSet_app {p b g : Nat} {body : Str} {σ : St} {off : Nat} (h : p < σ.length) (t : St) : rdSet p b g body (σ ++ t) off = rdSet p b g body σ off ++ t := by
 unfold rdSet
 rw [List.set_append_left _ _ h]
theorem same_pre {p : Nat} {σ τ υ : St} (h : σ <+: τ) (k : Same p τ υ) : Same p σ υ := fun i b hi hb => k i b hi (get_pre h hb)
theorem idx_ptr {P : List PV} {j : Nat} {s o : Nat} (h : P[j]? = some (.ptr s 0 0 o)) : vIndex 1 (.list .full P) (.int .i64 (j : Int)) = some (.eptr (.ptr s 0 0 o) 0) := by
 simp [vIndex,h,PV.cells?]
theorem load_eptr (s o : Nat) (σ : St) : vLoad false 1 (.eptr (.ptr s 0 0 o) 0) σ = some (.ptr s 0 0 o) := rfl
theorem nilPo (p o : Nat) : vNil (.ptr p 0 0 o) = some (.ptr p 0 0 o) := rfl
theorem fldPo (p o k : Nat) : vField k (.ptr p 0 0 o) = some (.ptr p 0 0 (o + k)) := rfl
theorem c253 {p q : Nat} : Gets 253 [.ptr p 0 0 0,.func 254 0 [.ptr q 0 0 0]] p [(q,cell p)] (pList pRange1) (fun l => growV (l.map pvRange)) :=
 gets_list (sz := 3) (by_ := 24) (fun a0 a1 σ R => (fn253_eq W a0 a1 σ R).trans rfl) (by omega) flatRange (fun _ => ⟨_,rfl,rfl⟩) (by kernel_rfl) c254
def cellsN (l : List Int) (n : Nat) (R : List PV) : List PV := l.map pvI ++ (List.replicate n (.int .i64 0) ++ R)
theorem cells_step (l : List Int) (n : Nat) (R : List PV) (a : Int) : vPut 1 (.agg (cellsN l (n + 1) R)) l.length (.int .i64 a) = some (.agg (cellsN (l ++ [a]) n R)) := by
 unfold cellsN
 rw [List.replicate_succ,List.cons_append,put_mid (by simp) rfl]
 simp [pvI]
set_option maxRecDepth 100000 in
theorem c177 {p : Nat} : Gets 177 [.ptr p 0 0 0] p [] pRout1 pvRoutL := gets_of fun b g body σ off R hrd h0 hl hok herr => by
 rw [fn177_eq]
 delta fn177 bF kF nI nL wvR
 have hbox : opC.vBoxAny (.ptr p 0 0 0) = some (1,.ptr p 0 0 0) := rfl
 simp only [hbox,zz,Nat.reduceEqDiff]
 rw [if_pos (by omega)]
 simp only [newW_eq,List.length_append,List.length_singleton]
 have hlt := hrd.lt
 generalize hA : σ ++ [Blk.arr 0 1 [.ptr p 0 0 0]] = A
 have hAl : A.length = σ.length + 1 := by simp [← hA]
 have hpre : σ <+: A := ⟨_,hA⟩
 have hq : A[σ.length]? = some (cell p) ∧ σ.length ≠ p := ⟨by simp [← hA,cell],by omega⟩
 have hrA : ∀ k : Blk,Rd p b g body (A ++ [k]) off := fun k => hrd.pre (pre_app hpre _)
 have hqA : ∀ k : Blk,(A ++ [k])[σ.length]? = some (cell p) ∧ σ.length ≠ p := fun k => ⟨get_pre ⟨_,rfl⟩ hq.1,hq.2⟩
 have hpA : p < A.length := by omega
 have hra : ∀ (o : Nat) (t : St),rdSet p b g body (A ++ t) o = rdSet p b g body A o ++ t := fun o t => rdSet_app hpA t
 have hrl : ∀ o,(rdSet p b g body A o).length = σ.length + 1 := fun o => by rw [rdSet_len,hAl]
 have hR : ∀ s,pRout1 s = pBind (pRep pNum 8) (fun l => pBind (pList pRange1) fun rs => pRet (mkRout l rs)) s := fun s => by rw [rout_rep]
 refine CutW_by (fun x τ => ∃ (l : List Int) (o2 : Nat),x 1 = .ptr σ.length 0 0 0 ∧ x 3 = .ptr (σ.length + 1) 0 0 0 ∧ x 2 = .agg [.int .i64 0,.int .i64 0,.int .i64 0,.int .i64 0,.int .i64 0,.int .i64 0,.int .i64 0,.int .i64 0,.list .nil []] ∧ l.length = 8 ∧ off ≤ o2 ∧ o2 ≤ body.length ∧ τ = rdSet p b g body A o2 ++ [.arr 0 9 [.agg (cellsN l 0 [.list .nil []])]] ∧ pRep pNum 8 (body.drop off) = .ok (l,body.drop o2)) (fun x τ hx => ?_) ?_
 ·obtain ⟨l,o2,q1,q3,q2,hl8,ho,hob,rfl,hrep⟩ := hx
  rw [← hra]
  simp only [q1,load_qr (hqA _),zz,Nat.reduceEqDiff]
  refine c253.nextB (hrA _) hob (fun h hh => by
   simp only [List.mem_cons,List.not_mem_nil,or_false] at hh
   subst hh
   exact hqA _) hl (fun rs o3 e1 l3 m3 => ?_) (fun e τ he hs => herr e τ (by rw [hR,pBind_ok hrep]; exact pBind_err he) (same_pre (pre_app hpre _) hs))
  have hp : vPut 1 (.agg (cellsN l 0 [.list .nil []])) 8 (growV (rs.map pvRange)) = some (.agg (l.map pvI ++ [growV (rs.map pvRange)])) := put_mid (by simp [hl8]) (grow_cells _)
  rw [hra]
  simp only [q3,q2,fldPo,Nat.zero_add,new_put (hrl o3) hp,new_load (sz := 9) (hrl o3) (show (l.map pvI ++ [growV (rs.map pvRange)]).length = 9 by simp [hl8]),zz,Nat.reduceEqDiff]
  have hv : (PV.agg (l.map pvI ++ [growV (rs.map pvRange)])) = pvRoutL (mkRout l rs) := by
   match l,hl8 with
   | [_,_,_,_,_,_,_,_],_ => rfl
  rw [hv]
  have hp2 : vPut 9 (.agg [.int .i64 0,.int .i64 0,.int .i64 0,.int .i64 0,.int .i64 0,.int .i64 0,.int .i64 0,.int .i64 0,.list .nil []]) 0 (pvRoutL (mkRout l rs)) = some (pvRoutL (mkRout l rs)) := vPut_agg rfl rfl
  have hp3 : vPart true 9 (pvRoutL (mkRout l rs)) 0 = some (pvRoutL (mkRout l rs)) := rfl
  simp only [hp2,hp3,zz,Nat.reduceEqDiff]
  refine weakW_kill (fun c => σ.length ≤ c) (kill_rd (off2 := o3) hrd ?_) (.base _ ((flatRout _).free _)) (hok _ o3 ?_ (by omega) m3)
  ·rw [← hA,rdSet_app hlt,List.append_assoc]
   exact ⟨_,rfl⟩
  ·rw [hR,pBind_ok hrep]
   exact pBind_ok e1
 have hP : ∀ j,j < 8 → [PV.ptr (σ.length + 1) 0 0 0,.ptr (σ.length + 1) 0 0 1,.ptr (σ.length + 1) 0 0 2,.ptr (σ.length + 1) 0 0 3,.ptr (σ.length + 1) 0 0 4,.ptr (σ.length + 1) 0 0 5,.ptr (σ.length + 1) 0 0 6,.ptr (σ.length + 1) 0 0 7][j]? = some (.ptr (σ.length + 1) 0 0 j) := fun j hj => by
  match j,hj with
  | 0,_ => rfl
  | 1,_ => rfl
  | 2,_ => rfl
  | 3,_ => rfl
  | 4,_ => rfl
  | 5,_ => rfl
  | 6,_ => rfl
  | 7,_ => rfl
 have hB : vBuildSl 1 (List.replicate 8 .nilptr) [(0,.ptr (σ.length + 1) 0 0 0),(1,.ptr (σ.length + 1) 0 0 1),(2,.ptr (σ.length + 1) 0 0 2),(3,.ptr (σ.length + 1) 0 0 3),(4,.ptr (σ.length + 1) 0 0 4),(5,.ptr (σ.length + 1) 0 0 5),(6,.ptr (σ.length + 1) 0 0 6),(7,.ptr (σ.length + 1) 0 0 7)] = some [PV.ptr (σ.length + 1) 0 0 0,.ptr (σ.length + 1) 0 0 1,.ptr (σ.length + 1) 0 0 2,.ptr (σ.length + 1) 0 0 3,.ptr (σ.length + 1) 0 0 4,.ptr (σ.length + 1) 0 0 5,.ptr (σ.length + 1) 0 0 6,.ptr (σ.length + 1) 0 0 7] := rfl
 have hL : ∀ τ,vLen .sl (.list .full [PV.ptr (σ.length + 1) 0 0 0,.ptr (σ.length + 1) 0 0 1,.ptr (σ.length + 1) 0 0 2,.ptr (σ.length + 1) 0 0 3,.ptr (σ.length + 1) 0 0 4,.ptr (σ.length + 1) 0 0 5,.ptr (σ.length + 1) 0 0 6,.ptr (σ.length + 1) 0 0 7]) τ = some (.int .i64 8) := fun _ => rfl
 simp only [fldPo,Nat.zero_add,hB,hL,zz,Nat.reduceEqDiff]
 generalize hPP : [PV.ptr (σ.length + 1) 0 0 0,.ptr (σ.length + 1) 0 0 1,.ptr (σ.length + 1) 0 0 2,.ptr (σ.length + 1) 0 0 3,.ptr (σ.length + 1) 0 0 4,.ptr (σ.length + 1) 0 0 5,.ptr (σ.length + 1) 0 0 6,.ptr (σ.length + 1) 0 0 7] = P at hP ⊢
 have hPl : P.length = 8 := by rw [← hPP]; rfl
 rw [hPl]
 refine Lfp_up 8 (fun j x τ => ∃ (l : List Int) (o2 : Nat),x = lookP [(1,.ptr σ.length 0 0 0),(3,.ptr (σ.length + 1) 0 0 0),(14,.list .full P),(15,.int .i64 8),(16,.int .i64 j),(2,.agg [.int .i64 0,.int .i64 0,.int .i64 0,.int .i64 0,.int .i64 0,.int .i64 0,.int .i64 0,.int .i64 0,.list .nil []])] ∧ l.length = j ∧ off ≤ o2 ∧ o2 ≤ body.length ∧ τ = rdSet p b g body A o2 ++ [.arr 0 9 [.agg (cellsN l (8 - j) [.list .nil []])]] ∧ pRep pNum 8 (body.drop off) = pCont l (pRep pNum (8 - j) (body.drop o2))) ?_ ⟨[],off,rfl,rfl,Nat.le_refl _,hrd.le,?_,?_⟩
 case refine_2 =>
  rw [(hrd.pre hpre).self]
  rfl
 case refine_3 =>
  cases pRep pNum 8 (body.drop off) with
  | error e => rfl
  | ok x => rfl
 rintro Φ j x τ hj ⟨l,o2,rfl,hlen,ho,hob,rfl,hrep⟩ next
 simp only [zz,Nat.reduceEqDiff]
 refine condB (fun hb => ?_) (fun hb => ?_)
 ·have hlt : j < 8 := by
   have : (j : Int) < 8 := by simpa using hb
   omega
  have hd : 8 - j = (8 - (j + 1)) + 1 := by omega
  rw [hd] at hrep ⊢
  rw [← hra]
  simp only [idx_ptr (hP j hlt),load_eptr,load_qr (hqA _),zz,Nat.reduceEqDiff]
  refine c175.nextB (hrA _) hob no0 hl (fun a o3 e1 l3 m3 => ?_) (fun e τ he hs => herr e τ ?_ (same_pre (pre_app hpre _) hs))
  ·rw [pRep_step e1] at hrep
   rw [hra]
   have hcs := cells_step l (8 - (j + 1)) [.list .nil []] a
   rw [hlen] at hcs
   simp only [nilPo,new_put (hrl o3) hcs,zz,Nat.reduceEqDiff]
   rw [vBin_add _ (by omega) (by omega)]
   simp only [zz,Nat.reduceEqDiff]
   exact next _ _ hlt ⟨l ++ [a],o3,rfl,by simp [hlen],by omega,m3,rfl,hrep⟩
  ·have e2 : pRep pNum (8 - (j + 1) + 1) (body.drop o2) = .error e := pBind_err he
   rw [e2] at hrep
   rw [hR]
   exact pBind_err hrep
 ·have hlt : ¬ j < 8 := by
   have : ¬ (j : Int) < 8 := by simpa using hb
   omega
  obtain rfl : j = 8 := by omega
  exact ⟨l,o2,trivial,trivial,trivial,hlen,ho,hob,rfl,by simpa [pRep,pRet,pCont] using hrep⟩
end Go.Proofs.YtgghfcchanilpaaGreatDoor
namespace Go.Proofs.YtgghfcchanilpaaGreatDoor
open Go Go.Abs
set_option maxRecDepth 100000 in
theorem c179 {p : Nat} : Gets 179 [.ptr p 0 0 0] p [] pInst1 pvInst := gets_of fun b g body σ off R hrd h0 hl hok herr => by
 rw [fn179_eq]
 delta fn179 bF sF kF nI wvR
 have hlt := hrd.lt
 have hra : ∀ (o : Nat) (t : St),rdSet p b g body (σ ++ t) o = rdSet p b g body σ o ++ t := fun o t => rdSet_app hlt t
 have hrl : ∀ o,(rdSet p b g body σ o).length = σ.length := fun o => rdSet_len σ o
 have hrA : ∀ k : Blk,Rd p b g body (σ ++ [k]) off := fun k => hrd.pre ⟨_,rfl⟩
 have hpr : ∀ k : Blk,σ <+: σ ++ [k] := fun k => ⟨_,rfl⟩
 have hR : ∀ s,pInst1 s = pBind (pRep pNum 12) (fun l => pRet (mkInst l)) s := fun s => by rw [inst_rep]
 have herr' : ∀ e τ,pRep pNum 12 (body.drop off) = .error e → Same p σ τ → R (.pan (wrongPV e)) τ := fun e τ he hs => herr e τ (by rw [hR]; exact pBind_err he) hs
 have hid : pRep pNum 12 (body.drop off) = pCont [] (pRep pNum 12 (body.drop off)) := by
  cases pRep pNum 12 (body.drop off) with
  | error e => rfl
  | ok x => rfl
 have herr1 : ∀ (l : List Int) (n o2 : Nat),pRep pNum 12 (body.drop off) = pCont l (pRep pNum (n + 1) (body.drop o2)) → ∀ e τ,pNum (body.drop o2) = .error e → Same p σ τ → R (.pan (wrongPV e)) τ := fun l n o2 hrep e τ he hs => herr' e τ (by
  have e2 : pRep pNum (n + 1) (body.drop o2) = .error e := pBind_err he
  rw [hrep,e2]
  rfl) hs
 refine c175.callB hrd h0 hl (fun a0 o1 e1 l1 m1 _ => ?_) (fun e τ he hs => herr1 [] 11 off hid e τ he hs)
 rw [pRep_step e1] at hid
 have w1 : vBuild [(.int .i64 0),(.int .i64 0),(.int .i64 0),(.int .i64 0),(.int .i64 0),(.int .i64 0),(.int .i64 0),(.int .i64 0),(.int .i64 0),(.int .i64 0),(.int .i64 0),(.int .i64 0)] [(0,1,.int .i64 a0)] = some (cellsN [a0] 11 []) := rfl
 have x1 : vPut 12 (.agg [(.int .i64 0),(.int .i64 0),(.int .i64 0),(.int .i64 0),(.int .i64 0),(.int .i64 0),(.int .i64 0),(.int .i64 0),(.int .i64 0),(.int .i64 0),(.int .i64 0),(.int .i64 0)]) 0 (.agg (cellsN [a0] 11 [])) = some (.agg (cellsN [a0] 11 [])) := rfl
 simp only [w1,newW_eq,hrl,new_put (hrl o1) x1,zz,Nat.reduceEqDiff]
 refine CutW_by (fun x τ => ∃ (l : List Int) (o2 : Nat),x 0 = .ptr p 0 0 0 ∧ x 3 = .ptr σ.length 0 0 0 ∧ x 2 = .agg [(.int .i64 0),(.int .i64 0),(.int .i64 0),(.int .i64 0),(.int .i64 0),(.int .i64 0),(.int .i64 0),(.int .i64 0),(.int .i64 0),(.int .i64 0),(.int .i64 0),(.int .i64 0)] ∧ l.length = 10 ∧ off ≤ o2 ∧ o2 ≤ body.length ∧ τ = rdSet p b g body σ o2 ++ [.arr 0 12 [.agg (cellsN l 2 [])]] ∧ pRep pNum 12 (body.drop off) = pCont l (pRep pNum 2 (body.drop o2))) (fun x τ hx => ?_) ?_
 ·obtain ⟨l,o2,q0,q3,q2,hl10,ho,hob,rfl,hrep⟩ := hx
  rw [← hra,q0]
  refine c252.nextB (hrA _) hob no0 hl (fun a o3 e3 l3 m3 => ?_) (fun e τ he hs => herr1 l 1 o2 hrep e τ he (same_pre (hpr _) hs))
  rw [pRep_step e3] at hrep
  have hc := cells_step l 1 [] a
  rw [hl10] at hc
  rw [hra]
  simp only [q3,q2,fldPo,Nat.zero_add,new_put (hrl o3) hc,zz,Nat.reduceEqDiff]
  rw [← hra]
  refine c175.nextB (hrA _) m3 no0 hl (fun a' o4 e4 l4 m4 => ?_) (fun e τ he hs => herr1 _ 0 o3 hrep e τ he (same_pre (hpr _) hs))
  rw [pRep_step e4] at hrep
  have hc' := cells_step (l ++ [a]) 0 [] a'
  rw [show (l ++ [a]).length = 11 by simp [hl10]] at hc'
  rw [hra]
  have h12 : (l ++ [a] ++ [a']).length = 12 := by simp [hl10]
  have hrep' : pRep pNum 12 (body.drop off) = .ok (l ++ [a] ++ [a'],body.drop o4) := by simpa [pRep,pRet,pCont] using hrep
  generalize l ++ [a] ++ [a'] = m at hc' h12 hrep'
  have hv : (PV.agg (cellsN m 0 [])) = pvInst (mkInst m) := by
   match m,h12 with
   | [_,_,_,_,_,_,_,_,_,_,_,_],_ => rfl
  have hload : vLoad true 12 (.ptr σ.length 0 0 0) (rdSet p b g body σ o4 ++ [.arr 0 12 [.agg (cellsN m 0 [])]]) = some (pvInst (mkInst m)) := by
   rw [← hv]
   exact new_load (hrl o4) (by simp [cellsN,h12])
  have hp2 : vPut 12 (.agg [(.int .i64 0),(.int .i64 0),(.int .i64 0),(.int .i64 0),(.int .i64 0),(.int .i64 0),(.int .i64 0),(.int .i64 0),(.int .i64 0),(.int .i64 0),(.int .i64 0),(.int .i64 0)]) 0 (pvInst (mkInst m)) = some (pvInst (mkInst m)) := vPut_agg rfl rfl
  have hp3 : vPart true 12 (pvInst (mkInst m)) 0 = some (pvInst (mkInst m)) := rfl
  simp only [fldPo,Nat.zero_add,new_put (hrl o4) hc',hload,hp2,hp3,zz,Nat.reduceEqDiff]
  refine weakW_kill (fun c => σ.length ≤ c) (kill_rd (off2 := o4) hrd ⟨_,rfl⟩) (.base _ ((flatInst _).free _)) (hok _ o4 ?_ (by omega) m4)
  rw [hR]
  exact pBind_ok hrep'
 have hP : ∀ j,j < 3 → [PV.ptr σ.length 0 0 1,.ptr σ.length 0 0 4,.ptr σ.length 0 0 7][j]? = some (.ptr σ.length 0 0 (1 + 3 * j)) := fun j hj => by
  match j,hj with
  | 0,_ => rfl
  | 1,_ => rfl
  | 2,_ => rfl
 have hB : vBuildSl 1 (List.replicate 3 .nilptr) [(0,.ptr σ.length 0 0 1),(1,.ptr σ.length 0 0 4),(2,.ptr σ.length 0 0 7)] = some [PV.ptr σ.length 0 0 1,.ptr σ.length 0 0 4,.ptr σ.length 0 0 7] := rfl
 simp only [fldPo,Nat.zero_add,hB,zz,Nat.reduceEqDiff]
 generalize hPP : [PV.ptr σ.length 0 0 1,.ptr σ.length 0 0 4,.ptr σ.length 0 0 7] = P at hP ⊢
 have hPl : P.length = 3 := by rw [← hPP]; rfl
 rw [hPl]
 refine Lfp_up 3 (fun j x τ => ∃ (l : List Int) (o2 : Nat),x = lookP [(0,.ptr p 0 0 0),(3,.ptr σ.length 0 0 0),(12,.list .full P),(13,.int .i64 3),(14,.int .i64 j),(2,.agg [(.int .i64 0),(.int .i64 0),(.int .i64 0),(.int .i64 0),(.int .i64 0),(.int .i64 0),(.int .i64 0),(.int .i64 0),(.int .i64 0),(.int .i64 0),(.int .i64 0),(.int .i64 0)])] ∧ l.length = 1 + 3 * j ∧ off ≤ o2 ∧ o2 ≤ body.length ∧ τ = rdSet p b g body σ o2 ++ [.arr 0 12 [.agg (cellsN l (11 - 3 * j) [])]] ∧ pRep pNum 12 (body.drop off) = pCont l (pRep pNum (11 - 3 * j) (body.drop o2))) ?_ ⟨[a0],o1,rfl,rfl,l1,m1,rfl,hid⟩
 rintro Φ j x τ hj ⟨l,o2,rfl,hlen,ho,hob,rfl,hrep⟩ next
 simp only [zz,Nat.reduceEqDiff]
 refine condB (fun hb => ?_) (fun hb => ?_)
 ·have hlt : j < 3 := by
   have : (j : Int) < 3 := by simpa using hb
   omega
  have hd : 11 - 3 * j = (11 - 3 * (j + 1)) + 1 + 1 + 1 := by omega
  rw [hd] at hrep ⊢
  generalize hnn : 11 - 3 * (j + 1) = n at hrep ⊢
  rw [← hra]
  simp only [idx_ptr (hP j hlt),load_eptr,zz,Nat.reduceEqDiff]
  refine c175.nextB (hrA _) hob no0 hl (fun a o3 e3 l3 m3 => ?_) (fun e τ he hs => herr1 l _ o2 hrep e τ he (same_pre (hpr _) hs))
  rw [pRep_step e3] at hrep
  have hc3 := cells_step l (n + 1 + 1) [] a
  rw [hlen] at hc3
  rw [hra]
  simp only [nilPo,fldPo,Nat.add_zero,new_put (hrl o3) hc3,zz,Nat.reduceEqDiff]
  rw [← hra]
  refine c175.nextB (hrA _) m3 no0 hl (fun a' o4 e4 l4 m4 => ?_) (fun e τ he hs => herr1 _ _ o3 hrep e τ he (same_pre (hpr _) hs))
  rw [pRep_step e4] at hrep
  have hc4 := cells_step (l ++ [a]) (n + 1) [] a'
  rw [show (l ++ [a]).length = 1 + 3 * j + 1 by simp [hlen]] at hc4
  rw [hra]
  simp only [nilPo,fldPo,new_put (hrl o4) hc4,zz,Nat.reduceEqDiff]
  rw [← hra]
  refine c175.nextB (hrA _) m4 no0 hl (fun a'' o5 e5 l5 m5 => ?_) (fun e τ he hs => herr1 _ _ o4 hrep e τ he (same_pre (hpr _) hs))
  rw [pRep_step e5] at hrep
  have hc5 := cells_step (l ++ [a] ++ [a']) n [] a''
  rw [show (l ++ [a] ++ [a']).length = 1 + 3 * j + 2 by simp [hlen]] at hc5
  rw [hra]
  simp only [nilPo,fldPo,new_put (hrl o5) hc5,zz,Nat.reduceEqDiff]
  rw [vBin_add _ (by omega) (by omega)]
  simp only [zz,Nat.reduceEqDiff]
  refine next _ _ hlt ⟨l ++ [a] ++ [a'] ++ [a''],o5,rfl,by simp [hlen]; omega,by omega,m5,?_,?_⟩
  ·rw [show 11 - 3 * (j + 1) = n by omega]
  ·rw [show 11 - 3 * (j + 1) = n by omega]
   exact hrep
 ·have hlt : ¬ j < 3 := by
   have : ¬ (j : Int) < 3 := by simpa using hb
   omega
  obtain rfl : j = 3 := by omega
  exact ⟨l,o2,trivial,trivial,trivial,hlen,ho,hob,rfl,hrep⟩
end Go.Proofs.YtgghfcchanilpaaGreatDoor

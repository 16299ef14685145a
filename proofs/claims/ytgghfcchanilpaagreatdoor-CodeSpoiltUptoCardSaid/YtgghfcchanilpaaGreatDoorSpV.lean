import Derived.Test.YtgghfcchanilpaaGreatDoorSpT
import Derived.Test.YtgghfcchanilpaaGreatDoorSpD
set_option linter.unusedVariables false
set_option linter.unusedSimpArgs false
namespace Go.Proofs.YtgghfcchanilpaaGreatDoor
open Go Go.Abs
def outB (r : RoutS) (k : Int) : Bool := decide (k < r.fr) || decide (k ≥ r.to)
def partB (k : Int) : Bool := decide (k < -1) || decide (k ≥ 64)
theorem c229 (r : RoutS) (k : Int) (σ : St) : Ret W 229 [.int .i64 k,.ptr σ.length 0 0 0] (σ ++ [.arr 0 9 [pvRout r]]) (.bool (outB r k)) := by
 refine ret_of fun R hR => ?_
 rw [fn229_eq]
 delta fn229 bF gF
 have hl2 : vLoad false 1 (.ptr σ.length 0 0 2) (σ ++ [.arr 0 9 [pvRout r]]) = some (.int .i64 r.fr) := by
  simp only [vLoad,new_get]
  rfl
 have hl3 : vLoad false 1 (.ptr σ.length 0 0 3) (σ ++ [.arr 0 9 [pvRout r]]) = some (.int .i64 r.to) := by
  simp only [vLoad,new_get]
  rfl
 simp only [fld,hl2,hl3,zz,Nat.reduceEqDiff,Nat.reduceAdd]
 refine orG (decide (k ≥ r.to)) (fun _ J hJ => hJ _ rfl) ?_
 exact weakW_keep hR
theorem c230 (k : Int) (σ : St) : Ret W 230 [.int .i64 k] σ (.bool (partB k)) := by
 refine ret_of fun R hR => ?_
 rw [fn230_eq]
 delta fn230 bF gF nI
 simp only [zz,Nat.reduceEqDiff]
 refine orG (decide (k ≥ 64)) (fun _ J hJ => hJ _ rfl) ?_
 exact weakW_keep hR
theorem st_rout (σ : St) (r : RoutS) : vStore 9 (.ptr σ.length 0 0 0) (pvRout r) (σ ++ [.arr 0 9 [.agg [(.int .i64 0),(.int .i64 0),(.int .i64 0),(.int .i64 0),(.int .i64 0),(.int .i64 0),(.int .i64 0),(.int .i64 0),(.list .nil [])]]]) = some (σ ++ [.arr 0 9 [pvRout r]]) := by
 simp [vStore,put_rout]
def jumpB (c : CodeS) (i : InstS) (r : Int) : Bool := (len (atI (.nil,[]) c.jumps i.k) == 0) || (atI (.nil,[]) c.jumps i.k).2.any (outB (rAt c r))
def tableS (c : CodeS) (i : InstS) (r : Int) : Int :=
 if i.op = 11 ∨ i.op = 12 ∨ i.op = 19 then (if jumpB c i r then 11 else 0)
 else if i.op = 23 then (if (atI (.nil,[]) c.parts i.k).2.any partB then 11 else 0) else 0
theorem c121 {c : CodeS} (hc : Okay c) (a b : Int) (i : InstS) {r : Int} (h0 : 0 ≤ r) (h1 : r < len c.routs) (hjk : i.op = 11 ∨ i.op = 12 ∨ i.op = 19 → 0 ≤ i.k ∧ i.k < len c.jumps) (hpk : i.op = 23 → 0 ≤ i.k ∧ i.k < len c.parts) (σ : St) :
  Ret W 121 [pvChk c a b,pvInst i,.int .i64 r] σ (.int .i64 (tableS c i r)) := by
 refine ret_of fun R hR => ?_
 rw [fn121_eq]
 delta fn121 bF pF gF kF nI nL
 have fin : ∀ (τ : St),σ <+: τ → ∀ v : Int,tableS c i r = v → weakW σ (.int .i64 v) τ fun v σ => R (.ret v) σ := fun τ hp v hv => by
  rw [hv] at hR
  exact weakW_clean hp (frz_same (.int _ _)) hR
 clear hR
 have hixr : vIndex 9 (pvSl pvRout c.routs) (.int .i64 r) = some (.eptr (pvRout (rAt c r)) 0) := idxI encRout zRout h0 h1
 have h09 : (0 : Nat) < 9 := by omega
 simp only [chk_parts,inst_parts3,zz,Nat.reduceEqDiff]
 refine CutW_by (fun x τ => tableS c i r = 0 ∧ σ <+: τ) (fun x τ hx => fin τ hx.2 0 hx.1) ?_
 refine condL (fun hl => ?_) (fun hl1 => ?_)
 ·refine condL (fun hl => ?_) (fun hn => absurd hl hn)
  have hk := hjk (by omega)
  have hix : vIndex 1 (pvSl pvInts c.jumps) (.int .i64 i.k) = some (.eptr (pvInts (atI (.nil,[]) c.jumps i.k)) 0) := idxI encInts (.nil,[]) hk.1 hk.2
  have hts : tableS c i r = if jumpB c i r then 11 else 0 := by
   simp only [tableS]
   rw [if_pos (by omega)]
  have htl : (atI (.nil,[]) c.jumps i.k).2.length ≤ 1048576 := by
   unfold atI
   rw [List.getD_eq_getElem?_getD]
   cases hq : c.jumps.2[i.k.toNat]? with
   | none => simp
   | some m => exact hc.jump m (List.mem_of_getElem? hq)
  unfold jumpB at hts
  generalize atI (.nil,[]) c.jumps i.k = t at hix hts htl
  have hlt : ∀ σ : St,vLen .sl (pvInts t) σ = some (.int .i64 (len t)) := fun σ => sl_len _ _ _
  simp only [hix,encInts.part,hixr,encRout.part,newW_eq,st_rout,h09,if_true,hlt,zz,Nat.reduceEqDiff]
  refine orG (t.2.any (outB (rAt c r))) (fun _ J hJ => ?_) ?_
  ·refine (c113 encI (outB (rAt c r)) (by kernel_rfl) (by omega) (fun m _ => c229 (rAt c r) m σ)).callB ?_
   exact hJ _ rfl
  refine condB (fun hb => ?_) (fun hb => ?_)
  ·rw [hb,if_pos rfl] at hts
   exact fin _ (List.prefix_append _ _) 11 hts
  ·rw [hb,if_neg (by simp)] at hts
   exact ⟨hts,List.prefix_append _ _⟩
 refine condL (fun hl => ?_) (fun hl2 => ?_)
 ·refine condL (fun hl => ?_) (fun hn => absurd hl hn)
  have hk := hjk (by omega)
  have hix : vIndex 1 (pvSl pvInts c.jumps) (.int .i64 i.k) = some (.eptr (pvInts (atI (.nil,[]) c.jumps i.k)) 0) := idxI encInts (.nil,[]) hk.1 hk.2
  have hts : tableS c i r = if jumpB c i r then 11 else 0 := by
   simp only [tableS]
   rw [if_pos (by omega)]
  have htl : (atI (.nil,[]) c.jumps i.k).2.length ≤ 1048576 := by
   unfold atI
   rw [List.getD_eq_getElem?_getD]
   cases hq : c.jumps.2[i.k.toNat]? with
   | none => simp
   | some m => exact hc.jump m (List.mem_of_getElem? hq)
  unfold jumpB at hts
  generalize atI (.nil,[]) c.jumps i.k = t at hix hts htl
  have hlt : ∀ σ : St,vLen .sl (pvInts t) σ = some (.int .i64 (len t)) := fun σ => sl_len _ _ _
  simp only [hix,encInts.part,hixr,encRout.part,newW_eq,st_rout,h09,if_true,hlt,zz,Nat.reduceEqDiff]
  refine orG (t.2.any (outB (rAt c r))) (fun _ J hJ => ?_) ?_
  ·refine (c113 encI (outB (rAt c r)) (by kernel_rfl) (by omega) (fun m _ => c229 (rAt c r) m σ)).callB ?_
   exact hJ _ rfl
  refine condB (fun hb => ?_) (fun hb => ?_)
  ·rw [hb,if_pos rfl] at hts
   exact fin _ (List.prefix_append _ _) 11 hts
  ·rw [hb,if_neg (by simp)] at hts
   exact ⟨hts,List.prefix_append _ _⟩
 refine condL (fun hl => ?_) (fun hl3 => ?_)
 ·have hk := hjk (by omega)
  have hix : vIndex 1 (pvSl pvInts c.jumps) (.int .i64 i.k) = some (.eptr (pvInts (atI (.nil,[]) c.jumps i.k)) 0) := idxI encInts (.nil,[]) hk.1 hk.2
  have hts : tableS c i r = if jumpB c i r then 11 else 0 := by
   simp only [tableS]
   rw [if_pos (by omega)]
  have htl : (atI (.nil,[]) c.jumps i.k).2.length ≤ 1048576 := by
   unfold atI
   rw [List.getD_eq_getElem?_getD]
   cases hq : c.jumps.2[i.k.toNat]? with
   | none => simp
   | some m => exact hc.jump m (List.mem_of_getElem? hq)
  unfold jumpB at hts
  generalize atI (.nil,[]) c.jumps i.k = t at hix hts htl
  have hlt : ∀ σ : St,vLen .sl (pvInts t) σ = some (.int .i64 (len t)) := fun σ => sl_len _ _ _
  simp only [hix,encInts.part,hixr,encRout.part,newW_eq,st_rout,h09,if_true,hlt,zz,Nat.reduceEqDiff]
  refine orG (t.2.any (outB (rAt c r))) (fun _ J hJ => ?_) ?_
  ·refine (c113 encI (outB (rAt c r)) (by kernel_rfl) (by omega) (fun m _ => c229 (rAt c r) m σ)).callB ?_
   exact hJ _ rfl
  refine condB (fun hb => ?_) (fun hb => ?_)
  ·rw [hb,if_pos rfl] at hts
   exact fin _ (List.prefix_append _ _) 11 hts
  ·rw [hb,if_neg (by simp)] at hts
   exact ⟨hts,List.prefix_append _ _⟩
 refine condL (fun hl => ?_) (fun hl4 => ?_)
 ·have hk := hpk hl
  have hix : vIndex 1 (pvSl pvInts c.parts) (.int .i64 i.k) = some (.eptr (pvInts (atI (.nil,[]) c.parts i.k)) 0) := idxI encInts (.nil,[]) hk.1 hk.2
  have hts : tableS c i r = if (atI (.nil,[]) c.parts i.k).2.any partB then 11 else 0 := by
   simp only [tableS]
   rw [if_neg (by omega),if_pos hl]
  have htl : (atI (.nil,[]) c.parts i.k).2.length ≤ 1048576 := by
   unfold atI
   rw [List.getD_eq_getElem?_getD]
   cases hq : c.parts.2[i.k.toNat]? with
   | none => simp
   | some m => exact hc.part m (List.mem_of_getElem? hq)
  generalize atI (.nil,[]) c.parts i.k = t at hix hts htl
  simp only [hix,encInts.part,zz,Nat.reduceEqDiff]
  refine (c113 encI partB (by kernel_rfl) (by omega) (fun m _ => c230 m σ)).callB ?_
  refine condB (fun hb => ?_) (fun hb => ?_)
  ·rw [hb,if_pos rfl] at hts
   exact fin _ (List.prefix_refl _) 11 hts
  ·rw [hb,if_neg (by simp)] at hts
   exact ⟨hts,List.prefix_refl _⟩
 ·refine ⟨?_,List.prefix_refl _⟩
  simp only [tableS]
  rw [if_neg (by omega),if_neg hl4]
end Go.Proofs.YtgghfcchanilpaaGreatDoor
namespace Go.Proofs.YtgghfcchanilpaaGreatDoor
open Go Go.Abs
def zInst : InstS := ⟨0,⟨0,0,0⟩,⟨0,0,0⟩,⟨0,0,0⟩,0,0⟩
def iAt (c : CodeS) (k : Int) : InstS := atI zInst c.insts k
def lf (op : Int) (k : Nat) : Int := (((formS op).getD k 0).toNat : Int)
def modeBad (c : CodeS) (i : InstS) (r : Int) : Bool := !operandS c i.s (lf i.op 0) r || !operandS c i.t (lf i.op 1) r || !operandS c i.d (lf i.op 2) r
def numBad (c : CodeS) (a b : Int) (i : InstS) (r : Int) : Bool := !wideS c i (lf i.op 3) || !secondS c a b i (lf i.op 4) r
def instE (c : CodeS) (a b : Int) (i : InstS) (r : Int) : Int :=
 if !knownS i.op then 13 else if modeBad c i r then 7 else if numBad c a b i r then 11 else tableS c i r
theorem form_len : ∀ n : Fin 40,(formS ((n.val : Nat) : Int)).length = 5 := by decide +kernel
theorem form_len' {op : Int} (h : knownS op = true) : (formS op).length = 5 := by
 have h' := known_iff.1 h
 have := form_len ⟨op.toNat,by omega⟩
 simp only [Int.toNat_of_nonneg h'.1] at this
 exact this
theorem str_at {op : Int} (h : knownS op = true) {k : Nat} (hk : k < 5) {q : IntKind} : vStrAt (.str (formS op)) (.int q k) = some (.int .u8 (lf op k)) := by
 have hl := form_len' h
 have hk' : k < (formS op).length := by omega
 simp [vStrAt,lf,List.getD_eq_getElem?_getD,hk']
theorem put_inst (i : InstS) : vPut 12 (.agg [(.int .i64 0),(.int .i64 0),(.int .i64 0),(.int .i64 0),(.int .i64 0),(.int .i64 0),(.int .i64 0),(.int .i64 0),(.int .i64 0),(.int .i64 0),(.int .i64 0),(.int .i64 0)]) 0 (pvInst i) = some (pvInst i) := rfl
theorem inst_opers (i : InstS) : vPart true 3 (pvInst i) 1 = some (pvOper i.s) ∧ vPart true 3 (pvInst i) 4 = some (pvOper i.t) ∧ vPart true 3 (pvInst i) 7 = some (pvOper i.d) ∧ vPart true 12 (pvInst i) 0 = some (pvInst i) := ⟨rfl,rfl,rfl,rfl⟩
theorem b3_opers (a b c : OperS) : vBuildSl 3 (List.replicate 3 (.agg [(.int .i64 0),(.int .i64 0),(.int .i64 0)])) [(0,pvOper a),(1,pvOper b),(2,pvOper c)] = some ([a,b,c].map pvOper) := rfl
theorem encOper3 : EncOk pvOper true 3 := ⟨fun _ => ⟨_,rfl,rfl⟩,fun _ => rfl⟩
theorem put_oper3 (o : OperS) : vPut 3 (.agg [(.int .i64 0),(.int .i64 0),(.int .i64 0)]) 0 (pvOper o) = some (pvOper o) := rfl
theorem lf_c {op : Int} (h : op = 11 ∨ op = 12 ∨ op = 19) : lf op 4 = 99 := by
 rcases h with rfl | rfl | rfl <;> rfl
theorem lf_p {op : Int} (h : op = 23) : lf op 4 = 112 := by subst h; rfl
theorem c63 {c : CodeS} (hc : Okay c) (hf : Fit c) (a b : Int) {k : Nat} (hk : k < c.insts.2.length) (hok : (iAt c k).ok = true) (h0 : 0 ≤ idxOf (inR k) c.routs.2 0) (h1 : idxOf (inR k) c.routs.2 0 < len c.routs) (σ : St) :
  Ret W 63 [pvChk c a b,.int .i64 k] σ (.int .i64 (instE c a b (iAt c k) (idxOf (inR k) c.routs.2 0))) := by
 refine ret_of fun R hR => ?_
 rw [fn63_eq]
 delta fn63 bF pF gF kF nI
 have hix : vIndex 12 (pvSl pvInst c.insts) (.int .i64 k) = some (.eptr (pvInst (iAt c k)) 0) := idxI encInst zInst (by omega) (by unfold len; omega)
 generalize iAt c k = i at hix hok hR
 simp only [chk_parts,hix,encInst.part,put_inst,inst_parts3,inst_opers,zz,Nat.reduceEqDiff]
 refine (c39 _ _).callB ?_
 simp only [zz,Nat.reduceEqDiff]
 have fin : ∀ v : Int,instE c a b i (idxOf (inR k) c.routs.2 0) = v → weakW σ (.int .i64 v) σ fun v σ => R (.ret v) σ := fun v hv => by
  rw [hv] at hR
  exact weakW_keep hR
 clear hR
 refine condB (fun hn => ?_) (fun hn => ?_)
 ·refine fin _ ?_
  simp only [instE,hn,if_true]
 have hkn : knownS i.op = true := by simpa using hn
 refine (c72 hc a b k _).callB ?_
 generalize idxOf (inR k) c.routs.2 0 = r at h0 h1 fin
 obtain ⟨n,rfl⟩ := Int.eq_ofNat_of_zero_le h0
 have hnl : n < c.routs.2.length := by unfold len at h1; omega
 have hform : (entryS i.op).2 = formS i.op := by simp only [formS,hkn,if_true]
 simp only [arrOff hkn,globPV0,(ops_name hkn).2,hform,b3_opers,zz,Nat.reduceEqDiff]
 have hbs : ∀ o ∈ [i.s,i.t,i.d],o.b < 9223372036854775808 := by
  intro o ho
  simp only [InstS.ok,OperS.ok,inI64,Bool.and_eq_true,decide_eq_true_eq] at hok
  simp at ho
  rcases ho with rfl | rfl | rfl <;> omega
 have hmb : modeBad c i n = (!operandS c i.s (lf i.op 0) n || !operandS c i.t (lf i.op 1) n || !operandS c i.d (lf i.op 2) n) := rfl
 refine Lfp_up 3 (fun j x τ => x = lookP [(6,.int .i64 n),(7,.str (formS i.op)),(34,.list .full ([i.s,i.t,i.d].map pvOper)),(35,.int .i64 3),(36,.int .i64 j),(2,pvChk c a b),(5,pvInst i)] ∧ τ = σ ∧
  ∀ m o,m < j → [i.s,i.t,i.d][m]? = some o → operandS c o (lf i.op m) n = true) ?_ ⟨rfl,rfl,fun m o h => by omega⟩
 rintro Φ j x τ hj ⟨rfl,rfl,hp⟩ next
 by_cases hlt : j < 3
 ·have hg : ∃ o,[i.s,i.t,i.d][j]? = some o := by
   have : j < [i.s,i.t,i.d].length := hlt
   exact ⟨_,List.getElem?_eq_getElem this⟩
  obtain ⟨o,hg⟩ := hg
  have hmem := List.mem_of_getElem? hg
  have e1 : decide ((j : Int) < 3) = true := decide_eq_true (by omega)
  have hio : vIndex 3 (.list .full ([i.s,i.t,i.d].map pvOper)) (.int .i64 j) = some (.eptr (pvOper o) 0) := encOper3.index hg
  simp only [e1,hio,encOper3.part,put_oper3,chk_parts,str_at hkn (show j < 5 by omega),zz,Nat.reduceEqDiff]
  refine (c118 hf hnl a b h0 (by omega) o (hbs o hmem) _ _).callB ?_
  simp only [zz,Nat.reduceEqDiff]
  refine condB (fun hb => ?_) (fun hb => ?_)
  ·refine fin _ ?_
   have hmt : modeBad c i n = true := by
    rw [hmb]
    match j,hlt with
    | 0,_ => simp at hg; subst hg; simp at hb; simp [hb]
    | 1,_ => simp at hg; subst hg; simp at hb; simp [hb]
    | 2,_ => simp at hg; subst hg; simp at hb; simp [hb]
   simp only [instE,hkn,hmt,Bool.not_true,Bool.false_eq_true,if_false,if_true]
  ·have hadd : vBin none .add (.int .i64 j) (.int .i64 1) = some (.int .i64 (j + 1 : Nat)) := vBin_add _ (by omega) (by omega)
   simp only [hadd,zz,Nat.reduceEqDiff]
   refine next _ _ hlt ⟨rfl,rfl,fun m o' hm ho' => ?_⟩
   rcases Nat.lt_succ_iff_lt_or_eq.1 hm with hm | rfl
   ·exact hp m o' hm ho'
   ·rw [hg] at ho'
    cases ho'
    simpa using hb
 obtain rfl : j = 3 := by omega
 have hmf : modeBad c i n = false := by
  rw [hmb,hp 0 i.s (by omega) rfl,hp 1 i.t (by omega) rfl,hp 2 i.d (by omega) rfl]
  rfl
 have e1 : decide (((3 : Nat) : Int) < 3) = false := rfl
 have s3 : vStrAt (.str (formS i.op)) (.int .i64 3) = some (.int .u8 (lf i.op 3)) := str_at (k := 3) hkn (by omega)
 have s4 : vStrAt (.str (formS i.op)) (.int .i64 4) = some (.int .u8 (lf i.op 4)) := str_at (k := 4) hkn (by omega)
 simp only [e1,chk_parts,inst_opers,s3,s4,zz,Nat.reduceEqDiff]
 refine (c119 c a b i _ _ _).callB ?_
 simp only [zz,Nat.reduceEqDiff]
 refine orG (!secondS c a b i (lf i.op 4) n) (fun _ J hJ => ?_) ?_
 ·refine (c120 hf hnl a b i (hbs i.s (by simp)) _ h0 (by omega) _).callB ?_
  simp only [zz,Nat.reduceEqDiff]
  exact hJ _ rfl
 refine condB (fun hb => ?_) (fun hb => ?_)
 ·refine fin _ ?_
  have : numBad c a b i n = true := hb
  simp only [instE,hkn,hmf,this,Bool.not_true,Bool.false_eq_true,if_false,if_true]
 have hnb : numBad c a b i n = false := hb
 have h2 : secondS c a b i (lf i.op 4) n = true := by
  simp only [Bool.or_eq_false_iff,Bool.not_eq_false'] at hb
  exact hb.2
 refine (c121 hc a b i h0 h1 (fun ho => ?_) (fun ho => ?_) _).callB ?_
 ·rw [lf_c ho] at h2
  have h3 : inS i.k (len c.jumps) = true := h2
  simp only [inS,Bool.and_eq_true,decide_eq_true_eq] at h3
  exact h3
 ·rw [lf_p ho] at h2
  have h3 : inS i.k (len c.parts) = true := h2
  simp only [inS,Bool.and_eq_true,decide_eq_true_eq] at h3
  exact h3
 ·refine fin _ ?_
  simp only [instE,hkn,hmf,hnb,Bool.not_true,Bool.false_eq_true,if_false]
end Go.Proofs.YtgghfcchanilpaaGreatDoor

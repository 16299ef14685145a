import Derived.Test.YtgghfcchanilpaaGreatDoorSpV
set_option linter.unusedVariables false
set_option linter.unusedSimpArgs false
namespace Go.Proofs.YtgghfcchanilpaaGreatDoor
open Go Go.Abs
def firstAt (e : Nat → Int) : Nat → Int × Int
 | 0 => (0,0)
 | n + 1 => if (firstAt e n).2 ≠ 0 then firstAt e n else if e n ≠ 0 then (n,e n) else (0,0)
theorem firstAt_zero {e : Nat → Int} : ∀ {n : Nat},(∀ k,k < n → e k = 0) → firstAt e n = (0,0)
 | 0,_ => rfl
 | n + 1,h => by
  have h1 : firstAt e n = (0,0) := firstAt_zero fun k hk => h k (by omega)
  simp [firstAt,h1,h n (by omega)]
theorem firstAt_at {e : Nat → Int} {j : Nat} (hp : ∀ k,k < j → e k = 0) (he : e j ≠ 0) : ∀ {n : Nat},j < n → firstAt e n = ((j : Int),e j)
 | 0,h => by omega
 | n + 1,h => by
  rcases Nat.lt_succ_iff_lt_or_eq.1 h with h | rfl
  ·have := firstAt_at (e := e) (j := j) hp he (n := n) h
   simp [firstAt,this,he]
  ·have h1 : firstAt e j = (0,0) := firstAt_zero hp
   simp [firstAt,h1,he]
theorem fit_order {c : CodeS} (h : Fit c) {i : Nat} (hi : i < c.routs.2.length) : (rAt c i).fr = fromS c i ∧ (rAt c i).fr < (rAt c i).to ∧ (i + 1 = c.routs.2.length → (rAt c i).to = len c.insts) := by
 have h0 := h.routs i hi
 have hb : orderBad c i = false := by
  cases hb : orderBad c i with
  | false => rfl
  | true =>
   simp only [routE,hb,if_true] at h0
   split at h0
   ·omega
   ·split at h0 <;> omega
 simp only [orderBad,Bool.or_eq_false_iff,Bool.not_eq_false',Bool.and_eq_false_iff,decide_eq_false_iff_not,beq_iff_eq,beq_eq_false_iff_ne] at hb
 obtain ⟨⟨h1,h2⟩,h3⟩ := hb
 refine ⟨h1,by omega,fun hl => ?_⟩
 rcases h3 with h3 | h3
 ·exfalso
  apply h3
  unfold len
  omega
 ·exact h3
theorem fit_before {c : CodeS} (h : Fit c) : ∀ {i : Nat},i < c.routs.2.length → 0 ≤ (rAt c i).fr ∧ ∀ j,j < i → (rAt c j).to ≤ (rAt c i).fr
 | 0,hi => by
  have h1 := (fit_order h hi).1
  have h0 : fromS c 0 = 0 := rfl
  exact ⟨by omega,fun j hj => by omega⟩
 | i + 1,hi => by
  have h1 := (fit_order h hi).1
  have h2 := fit_before h (i := i) (by omega)
  have h3 := (fit_order h (i := i) (by omega)).2.1
  have h4 : fromS c (i + 1) = (rAt c i).to := by
   unfold fromS
   rw [if_pos (by omega)]
   rfl
  rw [h4] at h1
  refine ⟨by omega,fun j hj => ?_⟩
  rcases Nat.lt_succ_iff_lt_or_eq.1 hj with hj | rfl
  ·have := h2.2 j hj
   omega
  ·omega
theorem rAt_get {c : CodeS} {i : Nat} (hi : i < c.routs.2.length) : c.routs.2[i]? = some (rAt c i) := by
 simp [rAt,atI,List.getD_eq_getElem?_getD,hi]
theorem fit_idx {c : CodeS} (h : Fit c) {i : Nat} (hi : i < c.routs.2.length) {k : Int} (h1 : (rAt c i).fr ≤ k) (h2 : k < (rAt c i).to) : idxOf (inR k) c.routs.2 0 = i := by
 have := idxOf_hit (p := inR k) (n := 0) (rAt_get hi) (by simp [inR]; omega) (by
  rw [List.all_eq_true]
  intro r hr
  obtain ⟨j,hj⟩ := List.mem_iff_getElem?.1 hr
  rw [List.getElem?_take] at hj
  split at hj
  ·rename_i hji
   rw [rAt_get (by omega)] at hj
   cases hj
   have := (fit_before h hi).2 j hji
   simp [inR]
   omega
  ·cases hj)
 simpa using this
theorem fit_some_rout {c : CodeS} (h : Fit c) : ∀ (n : Nat),n < c.routs.2.length → ∀ k : Int,0 ≤ k → k < (rAt c n).to → ∃ i,i ≤ n ∧ (rAt c i).fr ≤ k ∧ k < (rAt c i).to
 | 0,hn,k,h0,h1 => by
  have h2 := (fit_order h hn).1
  have h3 : fromS c 0 = 0 := rfl
  exact ⟨0,by omega,by omega,h1⟩
 | n + 1,hn,k,h0,h1 => by
  by_cases hk : (rAt c (n + 1 : Nat)).fr ≤ k
  ·exact ⟨n + 1,by omega,hk,h1⟩
  ·have h2 := (fit_order h hn).1
   have h4 : fromS c (n + 1) = (rAt c n).to := by
    unfold fromS
    rw [if_pos (by omega)]
    rfl
   obtain ⟨i,hi,q⟩ := fit_some_rout h n (by omega) k h0 (by omega)
   exact ⟨i,by omega,q⟩
theorem fit_rout_of {c : CodeS} (h : Fit c) (hr : c.routs.2.length ≠ 0) {k : Int} (h0 : 0 ≤ k) (h1 : k < len c.insts) : ∃ i,i < c.routs.2.length ∧ (rAt c i).fr ≤ k ∧ k < (rAt c i).to ∧ idxOf (inR k) c.routs.2 0 = i := by
 have hl := (fit_order h (i := c.routs.2.length - 1) (by omega)).2.2 (by omega)
 obtain ⟨i,hi,h2,h3⟩ := fit_some_rout h (c.routs.2.length - 1) (by omega) k h0 (by omega)
 exact ⟨i,by omega,h2,h3,fit_idx h (by omega) h2 h3⟩
structure Nums (c : CodeS) : Prop where
 lev : ∀ r ∈ c.routs.2,r.level < 9223372036854775808
 inst : ∀ i ∈ c.insts.2,i.ok = true
theorem Nums.level {c : CodeS} (h : Nums c) (k : Int) : (rAt c k).level < 9223372036854775808 := by
 unfold rAt atI
 rw [List.getD_eq_getElem?_getD]
 cases hq : c.routs.2[k.toNat]? with
 | none => simp [zRout]
 | some m => exact h.lev m (List.mem_of_getElem? hq)
theorem iAt_get {c : CodeS} {k : Nat} (hk : k < c.insts.2.length) : c.insts.2[k]? = some (iAt c k) := by
 simp [iAt,atI,List.getD_eq_getElem?_getD,hk]
theorem Nums.insts {c : CodeS} (h : Nums c) {k : Nat} (hk : k < c.insts.2.length) : (iAt c k).ok = true := h.inst _ (List.mem_of_getElem? (iAt_get hk))
def headE (c : CodeS) (k : Nat) : Int := [if overB c then 3 else 0,if slotsBad c then 13 else 0,linksE c,routsE c,tablesE c].getD k 0
def atE (c : CodeS) (a b : Int) (k : Nat) : Int := instE c a b (iAt c k) (idxOf (inR k) c.routs.2 0)
def checkS (c : CodeS) (a b : Int) : Int × Int := if firstE (headE c) 5 ≠ 0 then (0,firstE (headE c) 5) else firstAt (atE c a b) c.insts.2.length
theorem sigs_ok {c : CodeS} (h : linksE c = 0) : sigsBad c = false := by
 cases hs : sigsBad c with
 | false => rfl
 | true =>
  simp only [linksE,hs,if_true] at h
  split at h <;> omega
theorem fit_of {c : CodeS} (h : routsE c = 0) : Fit c ∧ c.routs.2.length ≠ 0 := by
 unfold routsE at h
 split at h
 ·omega
 ·rename_i h0
  refine ⟨⟨fun i hi => firstE_all h i hi⟩,fun hn => h0 ?_⟩
  unfold len
  omega
theorem flt_parts : (∀ a b c d : Int,vPut 2 (.agg [.int .i64 a,.int .i64 b]) 0 (.agg [.int .i64 c,.int .i64 d]) = some (.agg [.int .i64 c,.int .i64 d])) ∧
  (∀ a : Int,vBuild [.int .i64 0,.int .i64 0] [(1,1,.int .i64 a)] = some [.int .i64 0,.int .i64 a]) ∧ (∀ a b : Int,vBuild [.int .i64 0,.int .i64 0] [(0,1,.int .i64 a),(1,1,.int .i64 b)] = some [.int .i64 a,.int .i64 b]) ∧
  vBuild [.int .i64 0,.int .i64 0] [] = some [.int .i64 0,.int .i64 0] := ⟨fun _ _ _ _ => rfl,fun _ => rfl,fun _ _ => rfl,rfl⟩
theorem flt_ne (v : Int) : vBin none .neq (.int .i64 v) (.int .i64 0) = some (.bool (v != 0)) := rfl
theorem c56' (σ : St) : Ret W 56 [] σ (.list .part (List.replicate nOpers .any)) := ret_of fun R hR => hR
theorem c57' (σ : St) : Ret W 57 [] σ (.list .part (List.replicate nIdents .any)) := ret_of fun R hR => hR
theorem chk_build (c : CodeS) (a b : Int) : vBuild [(.list .nil []),(.list .nil []),(.list .nil []),(.list .nil []),(.list .nil []),(.list .nil []),(.list .nil []),(.list .nil []),(.list .nil []),(.list .nil []),(.int .i64 0),(.int .i64 0)] [(0,10,pvCode c),(10,1,.int .i64 a),(11,1,.int .i64 b)] = some (codeCells c ++ [.int .i64 a,.int .i64 b]) := rfl
theorem chk_put (c : CodeS) (a b : Int) : vPut 12 (.agg [(.list .nil []),(.list .nil []),(.list .nil []),(.list .nil []),(.list .nil []),(.list .nil []),(.list .nil []),(.list .nil []),(.list .nil []),(.list .nil []),(.int .i64 0),(.int .i64 0)]) 0 (.agg (codeCells c ++ [.int .i64 a,.int .i64 b])) = some (pvChk c a b) := rfl
def fnP (c : CodeS) (a b : Int) (g : Nat) : PV := .func g 1 [pvChk c a b]
theorem encFn (c : CodeS) (a b : Int) : EncOk (fnP c a b) false 1 := ⟨fun _ => ⟨_,rfl,rfl⟩,fun _ => rfl⟩
theorem fn_build (c : CodeS) (a b : Int) : vBuildSl 1 (List.replicate 5 .nilfunc) [(0,(.func 58 1 [pvChk c a b])),(1,(.func 59 1 [pvChk c a b])),(2,(.func 60 1 [pvChk c a b])),(3,(.func 61 1 [pvChk c a b])),(4,(.func 62 1 [pvChk c a b]))] = some ([58,59,60,61,62].map (fnP c a b)) := rfl
theorem head_call {c : CodeS} (hc : Okay c) (hn : Nums c) (a b : Int) (σ : St) : ∀ (j g : Nat),[58,59,60,61,62][j]? = some g → (∀ k,k < j → headE c k = 0) → hasBody g = true ∧ Ret W g [pvChk c a b] σ (.int .i64 (headE c j))
 | 0,g,hg,_ => by
  obtain rfl : 58 = g := by simpa using hg
  exact ⟨by kernel_rfl,c58 hc _ _ σ⟩
 | 1,g,hg,_ => by
  obtain rfl : 59 = g := by simpa using hg
  exact ⟨by kernel_rfl,c59 hc _ _ σ⟩
 | 2,g,hg,_ => by
  obtain rfl : 60 = g := by simpa using hg
  exact ⟨by kernel_rfl,c60 hc _ _ σ⟩
 | 3,g,hg,h => by
  obtain rfl : 61 = g := by simpa using hg
  exact ⟨by kernel_rfl,c61 hc (sigs_ok (h 2 (by omega))) _ _ hn.level σ⟩
 | 4,g,hg,_ => by
  obtain rfl : 62 = g := by simpa using hg
  exact ⟨by kernel_rfl,c62 hc _ _ σ⟩
 | j + 5,g,hg,_ => by simp at hg
theorem c24 {c : CodeS} (hc : Okay c) (hn : Nums c) (σ : St) : Ret W 24 [pvCode c] σ (pvSig (checkS c 470 49)) := by
 refine ret_of fun R hR => ?_
 rw [fn24_eq]
 delta fn24 bF pF kF nI nL wvR
 have hil := hc.insts
 have fin : ∀ p : Int × Int,checkS c 470 49 = p → weakW σ (pvSig p) σ fun v σ => R (.ret v) σ := fun p hp => by
  rw [hp] at hR
  exact weakW_keep hR
 clear hR
 simp only [code_parts,zz,Nat.reduceEqDiff]
 refine (c56' _).callB ?_
 simp only [List.length_replicate,zz,Nat.reduceEqDiff]
 refine (c57' _).callB ?_
 have e1 : ((nOpers : Nat) : Int) = 470 := rfl
 have e2 : ((nIdents : Nat) : Int) = 49 := rfl
 simp only [List.length_replicate,e1,e2,chk_build,chk_put,chk_parts,fn_build,zz,Nat.reduceEqDiff]
 have h5 : [58,59,60,61,62].length = 5 := rfl
 have hcall := head_call hc hn 470 49 σ
 generalize [58,59,60,61,62] = l at hcall h5
 simp only [List.length_map,h5,zz,Nat.reduceEqDiff]
 refine Lfp_first 5 (headE c) (fun j => lookP [(25,.list .full (l.map (fnP c 470 49))),(26,.int .i64 5),(27,.int .i64 j),(1,pvCode c),(2,.agg [.int .i64 0,.int .i64 0]),(3,pvChk c 470 49)]) σ rfl (fun hall Φ => ?_) (fun Φ j hj hpre hhit next => ?_)
 case refine_2 =>
  have hg : l[j]? = some l[j] := by simp [h5,hj]
  generalize l[j] = g at hg
  obtain ⟨hb,hcl⟩ := hcall j g hg hpre
  have e3 : decide ((j : Int) < 5) = true := decide_eq_true (by omega)
  have hfn : fnP c 470 49 g = .func g 1 [pvChk c 470 49] := rfl
  have harg : argsF 1 [] [pvChk c 470 49] = [pvChk c 470 49] := rfl
  have hpt : vPart false 1 (.func g 1 [pvChk c 470 49]) 0 = some (.func g 1 [pvChk c 470 49]) := rfl
  simp only [e3,(encFn c 470 49).index hg,hfn,hpt,callG_func hb,harg,zz,Nat.reduceEqDiff]
  refine hcl.callB ?_
  simp only [flt_ne,zz,Nat.reduceEqDiff]
  refine condB (fun hbad => ?_) (fun hbad => ?_)
  ·have hne : headE c j ≠ 0 := by simpa using hbad
   simp only [flt_parts,zz,Nat.reduceEqDiff]
   refine fin (0,headE c j) ?_
   have h1 := hhit hne
   unfold checkS
   rw [h1,if_pos hne]
  ·have hz : headE c j = 0 := by simpa using hbad
   rw [vBin_add _ (by omega) (by omega)]
   simp only [zz,Nat.reduceEqDiff]
   exact next hz
 have e3 : decide (((5 : Nat) : Int) < 5) = false := rfl
 have hz := firstE_zero hall
 have hcs : checkS c 470 49 = firstAt (atE c 470 49) c.insts.2.length := by
  unfold checkS
  rw [hz,if_neg (by omega)]
 obtain ⟨hf,hr0⟩ := fit_of (hall 3 (by omega))
 simp only [e3,code_parts,sl_len,zz,Nat.reduceEqDiff]
 refine Lfp_first c.insts.2.length (atE c 470 49) (fun j => lookP [(40,.int .i64 (len c.insts)),(41,.int .i64 j),(2,.agg [.int .i64 0,.int .i64 0]),(3,pvChk c 470 49)]) σ rfl (fun hall2 Ψ => ?_) (fun Ψ k hk hpre hhit next => ?_)
 ·simp only [not_lt_len,Nat.lt_irrefl,decide_false,flt_parts,zz,Nat.reduceEqDiff]
  refine fin (0,0) ?_
  rw [hcs,firstAt_zero hall2]
 obtain ⟨r,hr,-,-,hix⟩ := fit_rout_of hf hr0 (k := k) (by omega) (by unfold len; omega)
 simp only [lt_len hk,hk,decide_true,chk_parts,zz,Nat.reduceEqDiff]
 refine (c63 hc hf 470 49 hk (hn.insts hk) (by omega) (by rw [hix]; unfold len; omega) _).callB ?_
 have hat : instE c 470 49 (iAt c k) (idxOf (inR k) c.routs.2 0) = atE c 470 49 k := rfl
 rw [hat]
 simp only [flt_ne,zz,Nat.reduceEqDiff]
 refine condB (fun hbad => ?_) (fun hbad => ?_)
 ·have hne : atE c 470 49 k ≠ 0 := by simpa using hbad
  simp only [flt_parts,zz,Nat.reduceEqDiff]
  refine fin (k,atE c 470 49 k) ?_
  rw [hcs,firstAt_at hpre hne hk]
 ·have hz' : atE c 470 49 k = 0 := by simpa using hbad
  rw [vBin_add _ (by omega) (by omega)]
  simp only [zz,Nat.reduceEqDiff]
  exact next hz'
end Go.Proofs.YtgghfcchanilpaaGreatDoor

import Derived.Test.YtgghfcchanilpaaGreatDoorPlF
set_option linter.unusedVariables false
set_option linter.unusedSimpArgs false
namespace Go.Proofs.YtgghfcchanilpaaGreatDoor
open Go Go.Abs
theorem c117 {s t : Str} (h : s.length < 4294967281) (σ : St) : Ret W 117 [.str s,.str t] σ (.bool (Go.Lib.contains s t)) := ret_of fun R hR => by
 show bindO False (extContains [.str s,.str t] σ) (fun r => R (.ret r.1) r.2)
 have : extContains [.str s,.str t] σ = some (.bool (Go.Lib.contains s t),σ) := by simp only [extContains,h,if_true]
 rw [this]
 exact hR
theorem put_trans (t : TransS) : vPut 3 (.agg [(.str []),(.bool false),(.int .i64 0)]) 0 (pvTrans t) = some (pvTrans t) := rfl
theorem trans_parts (t : TransS) : vPart false 1 (pvTrans t) 0 = some (.str t.word) ∧ vPart false 1 (pvTrans t) 2 = some (.int .i64 t.map) ∧ vPart true 3 (pvTrans t) 0 = some (pvTrans t) := ⟨rfl,rfl,rfl⟩
theorem c62 {c : CodeS} (hc : Okay c) (a b : Int) (σ : St) : Ret W 62 [pvChk c a b] σ (.int .i64 (tablesE c)) := by
 refine ret_of fun R hR => ?_
 rw [fn62_eq]
 unfold fn62
 have ht := hc.trans
 have hl := hc.lines
 have fin : ∀ n : Int,tablesE c = n → weakW σ (.int .i64 n) σ fun v σ => R (.ret v) σ := fun n hb => by
  rw [hb] at hR
  exact weakW_keep hR
 clear hR
 simp only [chk_parts,sl_len,zz,Nat.reduceEqDiff]
 refine Lfp_any c.trans.2 (fun t => wordBad t.word || !inS t.map (len c.maps)) (fun j => lookP [(10,pvSl pvTrans c.trans),(11,.int .i64 (len c.trans)),(12,.int .i64 j),(1,pvChk c a b)]) _ rfl (fun hb Φ => ?_) (fun Φ j t hg hmem hj hit next => ?_)
 case refine_2 =>
  have hw := hc.word t hmem
  simp only [lt_len hj,hj,decide_true,sl_idx encTrans hg,trans_parts,put_trans,chk_parts,sl_len,zz,Nat.reduceEqDiff]
  refine orG (Go.Lib.contains t.word [32]) (fun _ J hJ => ?_) ?_
  ·refine (c117 (by omega) _).callB ?_
   exact hJ _ rfl
  refine orG (!Go.Lib.contains wordLine ([32] ++ t.word ++ [32])) (fun _ J hJ => ?_) ?_
  ·rw [vBin_add_str _ (by simp; omega)]
   simp only [zz,Nat.reduceEqDiff]
   rw [vBin_add_str _ (by simp; omega)]
   simp only [zz,Nat.reduceEqDiff]
   refine (c117 (s := wordLine) (by decide) _).callB ?_
   simp only [zz,Nat.reduceEqDiff]
   exact hJ _ rfl
  rw [word_both]
  refine orG (!inS t.map (len c.maps)) (fun _ J hJ => ?_) ?_
  ·refine (c42 _ _ _).callB ?_
   simp only [zz,Nat.reduceEqDiff]
   exact hJ _ rfl
  refine condB (fun hb => ?_) (fun hb => ?_)
  ·refine fin _ ?_
   have : transBad c = true := hit hb
   simp only [tablesE,this,if_true]
  ·rw [vBin_add _ (by omega) (by omega)]
   simp only [zz,Nat.reduceEqDiff]
   exact next hb
 have htb : transBad c = false := hb
 clear hb
 simp only [not_lt_len,Nat.lt_irrefl,decide_false,chk_parts,sl_len,zz,Nat.reduceEqDiff]
 refine Lfp_first c.lines.2.length (lineE c) (fun j => lookP [(5,.int .i64 (prevS c j)),(45,pvSl pvSig c.lines),(46,.int .i64 (len c.lines)),(47,.int .i64 j),(1,pvChk c a b)]) _ rfl (fun hall Φ => ?_) (fun Φ j hj hpre hhit next => ?_)
 ·simp only [not_lt_len,Nat.lt_irrefl,decide_false,zz,Nat.reduceEqDiff]
  refine fin _ ?_
  simp only [tablesE,htb,Bool.false_eq_true,if_false,firstE_zero hall]
 have hg : c.lines.2[j]? = some (c.lines.2.getD j (0,0)) := by simp [List.getD_eq_getElem?_getD,hj]
 have p1 : vPart false 1 (pvSig (c.lines.2.getD j (0,0))) 0 = some (.int .i64 (lAt c j)) := rfl
 simp only [lt_len hj,hj,decide_true,sl_idx encSig hg,encSig.part,put_sig,sig_parts,p1,chk_parts,sl_len,zz,Nat.reduceEqDiff]
 have hq := line_chk hpre
 refine orG (decide (lAt c j ≥ len c.insts)) (fun _ J hJ => ?_) ?_
 ·exact hJ _ rfl
 rw [hq]
 refine condB (fun hb => ?_) (fun hb => ?_)
 ·have he : lineE c j = 10 := by simp only [lineE,hb,if_true]
  refine fin _ ?_
  simp only [tablesE,htb,Bool.false_eq_true,if_false,hhit (by rw [he]; omega),he]
 ·rw [vBin_add _ (by omega) (by omega)]
  simp only [zz,Nat.reduceEqDiff]
  refine next ?_
  simp only [lineE,hb,Bool.false_eq_true,if_false]
theorem c126 (σ : St) : Ret W 126 [] σ (.list .full (wordTab.map PV.str)) := by
 refine ret_of fun R hR => ?_
 rw [fn126_eq]
 unfold fn126
 exact weakW_keep hR
theorem line_ref {c : CodeS} {k : Nat} : (!inS (lAt c k) (len c.insts) || (decide ((k : Int) > 0) && decide (lAt c k ≤ lAt c (k - 1)))) = (!inS (lAt c k) (len c.insts) || decide (lAt c k ≤ prevS c k)) := by
 cases k with
 | zero =>
  rw [show prevS c 0 = -1 from rfl,Bool.eq_iff_iff]
  simp only [inS,Bool.or_eq_true,Bool.not_eq_true',Bool.and_eq_false_iff,Bool.and_eq_true,decide_eq_true_eq,decide_eq_false_iff_not]
  constructor
  ·rintro (h | h)
   ·exact .inl h
   ·omega
  ·rintro (h | h)
   ·exact .inl h
   ·exact .inl (.inl (by omega))
 | succ k =>
  have : decide (((k + 1 : Nat) : Int) > 0) = true := decide_eq_true (by omega)
  rw [this,Bool.true_and]
  rfl
theorem c67 {c : CodeS} (hc : Okay c) (σ : St) : Ret W 67 [pvCode c] σ (.int .i64 (tablesE c)) := by
 refine ret_of fun R hR => ?_
 rw [fn67_eq]
 unfold fn67
 have ht := hc.trans
 have hl := hc.lines
 have fin : ∀ n : Int,tablesE c = n → weakW σ (.int .i64 n) σ fun v σ => R (.ret v) σ := fun n hb => by
  rw [hb] at hR
  exact weakW_keep hR
 clear hR
 simp only [code_parts,zz,Nat.reduceEqDiff]
 refine CutW_by (fun x τ => x 1 = pvCode c ∧ τ = σ ∧ transBad c = false) (fun x τ hx => ?_) ?_
 case refine_2 =>
  refine Lfp_any c.trans.2 (fun t => wordBad t.word || !inS t.map (len c.maps)) (fun j => lookP [(3,.int .i64 j),(1,pvCode c)]) _ rfl (fun hb Φ => ?_) (fun Φ j t hg hmem hj hit next => ?_)
  ·simp only [code_parts,sl_len,not_lt_len,Nat.lt_irrefl,decide_false,zz,Nat.reduceEqDiff]
   exact ⟨trivial,trivial,hb⟩
  simp only [code_parts,sl_len,lt_len hj,hj,decide_true,zz,Nat.reduceEqDiff]
  refine CutW_by (fun x τ => x 1 = pvCode c ∧ x 3 = .int .i64 j ∧ τ = σ ∧ (wordBad t.word || !inS t.map (len c.maps)) = false) (fun x τ hx => ?_) ?_
  ·obtain ⟨h1,h3,rfl,hb⟩ := hx
   simp only [h1,h3]
   rw [vBin_add _ (by omega) (by omega)]
   simp only [zz,Nat.reduceEqDiff]
   exact next hb
  refine CutW_by (fun x τ => x 1 = pvCode c ∧ x 3 = .int .i64 j ∧ x 4 = .bool (wordTab.any fun w => t.word == w) ∧ τ = σ) (fun x τ hx => ?_) ?_
  ·obtain ⟨h1,h3,h4,rfl⟩ := hx
   have hwb : (!wordTab.any fun w => t.word == w) = wordBad t.word := rfl
   simp only [h1,h3,h4,hwb,zz,Nat.reduceEqDiff]
   refine orG (!inS t.map (len c.maps)) (fun _ J hJ => ?_) ?_
   ·simp only [code_parts,sl_idx encTrans hg,fldE,trans_parts,sl_len,zz,Nat.reduceEqDiff,Nat.reduceAdd]
    refine (c75 _ _ _).callB ?_
    simp only [zz,Nat.reduceEqDiff]
    exact hJ _ rfl
   refine condB (fun hb => ?_) (fun hb => ?_)
   ·refine fin _ ?_
    have : transBad c = true := hit hb
    simp only [tablesE,this,if_true]
   ·exact ⟨trivial,trivial,rfl,hb⟩
  have h6 : wordTab.length = 6 := rfl
  have h126 := fun σ => c126 σ
  generalize wordTab = l at h6 h126
  refine Lfp_up l.length (fun k x τ => x = lookP [(3,.int .i64 j),(4,.bool ((l.take k).any fun w => t.word == w)),(5,.int .i64 k),(1,pvCode c)] ∧ τ = σ) ?_ ⟨rfl,rfl⟩
  rintro Ψ k x τ hk ⟨rfl,rfl⟩ next2
  refine (h126 _).callB ?_
  by_cases hlt : k < l.length
  ·have hw : l[k]? = some l[k] := by simp [hlt]
   generalize l[k] = w at hw
   simp only [List.length_map,hlt,lt_len' hlt,decide_true,zz,Nat.reduceEqDiff]
   refine orG (t.word == w) (fun _ J hJ => ?_) ?_
   ·simp only [code_parts,sl_idx encTrans hg,fldE,trans_parts,zz,Nat.reduceEqDiff,Nat.reduceAdd]
    refine (h126 _).callC ?_
    simp only [encStr.index hw,encStr.part,zz,Nat.reduceEqDiff]
    exact hJ _ rfl
   rw [vBin_add _ (by omega) (by omega)]
   simp only [zz,Nat.reduceEqDiff]
   refine next2 _ _ hlt ⟨?_,rfl⟩
   rw [List.take_add_one,hw,List.any_append]
   simp
  ·obtain rfl : k = l.length := by omega
   simp only [List.length_map,Nat.lt_irrefl,not_lt_len',decide_false,List.take_length,zz,Nat.reduceEqDiff]
   exact ⟨trivial,trivial,trivial,trivial⟩
 obtain ⟨h1,rfl,htb⟩ := hx
 simp only [h1]
 clear h1 x
 refine CutW_by (fun x τ' => τ' = τ ∧ firstE (lineE c) c.lines.2.length = 0) (fun x τ' hx => ?_) ?_
 ·obtain ⟨rfl,hz⟩ := hx
  refine fin _ ?_
  simp only [tablesE,htb,Bool.false_eq_true,if_false,hz]
 refine Lfp_first c.lines.2.length (lineE c) (fun j => lookP [(6,.int .i64 j),(1,pvCode c)]) _ rfl (fun hall Φ => ?_) (fun Φ j hj hpre hhit next => ?_)
 ·simp only [code_parts,sl_len,not_lt_len,Nat.lt_irrefl,decide_false,zz,Nat.reduceEqDiff]
  exact ⟨trivial,firstE_zero hall⟩
 have hg : c.lines.2[j]? = some (c.lines.2.getD j (0,0)) := by simp [List.getD_eq_getElem?_getD,hj]
 have p1 : vPart false 1 (pvSig (c.lines.2.getD j (0,0))) 0 = some (.int .i64 (lAt c j)) := rfl
 simp only [code_parts,sl_len,lt_len hj,hj,decide_true,sl_idx encSig hg,fldE,p1,zz,Nat.reduceEqDiff,Nat.reduceAdd]
 refine (c75 _ _ _).callB ?_
 simp only [zz,Nat.reduceEqDiff]
 refine orAndG (decide ((j : Int) > 0)) (decide (lAt c j ≤ lAt c (j - 1))) (fun _ J hJ => ?_) (fun _ hA y J hJ => ?_) ?_
 ·exact hJ _ rfl
 ·simp only [decide_eq_true_eq] at hA
  have hg1 : c.lines.2[j - 1]? = some (c.lines.2.getD (j - 1) (0,0)) := by
   have : j - 1 < c.lines.2.length := by omega
   simp [List.getD_eq_getElem?_getD,this]
  have p2 : vPart false 1 (pvSig (c.lines.2.getD (j - 1) (0,0))) 0 = some (.int .i64 (lAt c (j - 1))) := rfl
  have hix1 : vIndex 2 (pvSl pvSig c.lines) (.int .i64 ((j : Int) - 1)) = some (.eptr (pvSig (c.lines.2.getD (j - 1) (0,0))) 0) := by
   rw [show (j : Int) - 1 = ((j - 1 : Nat) : Int) by omega]
   exact sl_idx encSig hg1
  rw [vBin_sub _ (by omega) (by omega)]
  simp only [code_parts,sl_idx encSig hg,hix1,fldE,p1,p2,zz,Nat.reduceEqDiff,Nat.reduceAdd]
  exact hJ _ rfl
 rw [line_ref]
 refine condB (fun hb => ?_) (fun hb => ?_)
 ·have he : lineE c j = 10 := by simp only [lineE,hb,if_true]
  refine fin _ ?_
  simp only [tablesE,htb,Bool.false_eq_true,if_false,hhit (by rw [he]; omega),he]
 ·rw [vBin_add _ (by omega) (by omega)]
  simp only [zz,Nat.reduceEqDiff]
  refine next ?_
  simp only [lineE,hb,Bool.false_eq_true,if_false]
end Go.Proofs.YtgghfcchanilpaaGreatDoor

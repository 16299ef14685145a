import Derived.Test.YtgghfcchanilpaaGreatDoorSpZ
set_option linter.unusedVariables false
set_option linter.unusedSimpArgs false
namespace Go.Proofs.YtgghfcchanilpaaGreatDoor
open Go Go.Abs
theorem letters_at : ∀ n : Fin 40,(lf ((n.val : Nat) : Int) 4 = 99 ↔ (n.val = 11 ∨ n.val = 12 ∨ n.val = 19)) ∧ (lf ((n.val : Nat) : Int) 4 = 112 ↔ n.val = 23) ∧ (lf ((n.val : Nat) : Int) 4 = 74 → lf ((n.val : Nat) : Int) 0 = 114) := by decide +kernel
theorem letters {op : Int} (h : knownS op = true) : (lf op 4 = 99 ↔ (op = 11 ∨ op = 12 ∨ op = 19)) ∧ (lf op 4 = 112 ↔ op = 23) ∧ (lf op 4 = 74 → lf op 0 = 114) := by
 have h' := known_iff.1 h
 obtain ⟨n,rfl⟩ := Int.eq_ofNat_of_zero_le h'.1
 have := letters_at ⟨n,by omega⟩
 simp only at this
 obtain ⟨h1,h2,h3⟩ := this
 refine ⟨h1.trans ?_,h2.trans ?_,h3⟩ <;> omega
theorem number_eq {c : CodeS} {n : Nat} (hout : OutOk c n) (hlen : (n : Int) < len c.routs) (a b : Int) (i : InstS) {r : Int} (h0 : 0 ≤ r) (h1 : r ≤ n) (hk : knownS i.op = true) (hm : modeBad c i r = false) : numberS c a b i (lf i.op 4) r = secondS c a b i (lf i.op 4) r := by
 unfold numberS
 split
 ·rename_i hl
  have hs : operandS c i.s 114 r = true := by
   rw [← (letters hk).2.2 hl]
   simp only [modeBad,Bool.or_eq_false_iff,Bool.not_eq_false'] at hm
   exact hm.1.1
  have h2 : (reachS c r i.s.b).2 = true := by
   simp only [operandS] at hs
   split at hs
   ·simp at hs
   ·split at hs
    ·simp at hs
    ·split at hs
     ·simp only [Bool.and_eq_true] at hs
      exact hs.1.2
     ·cases hs
  obtain ⟨hr2,hr1⟩ := reach_ref (n := i.s.b) hout hlen h0 h1
  rw [h2] at hr2
  have hf : decide (0 ≤ furR c r i.s.b) = true := (Bool.and_eq_true_iff.1 hr2.symm).1
  simp only [decide_eq_true_eq] at hf
  have hnn : 0 ≤ i.s.b := by
   rcases Int.lt_or_le i.s.b 0 with h | h
   ·exfalso
    have : furR c r i.s.b = -1 := by unfold furR; rw [if_pos (Or.inl h)]
    omega
   ·exact h
  have ho : (outerR c r i.s.b).1 = furR c r i.s.b := by
   rw [furR_at hout hlen h0 h1 hnn] at hf ⊢
   unfold outerR
   rw [if_neg (by omega),if_neg (by omega)]
  simp only [secondS,hl,ho,decide_eq_true (show furR c r i.s.b ≥ 0 from hf),Bool.true_and]
  rfl
 ·rfl
theorem form_some {op : Int} (h : knownS op = true) : ∃ x l,formS op = x :: l := by
 have := form_len' h
 cases hf : formS op with
 | nil => rw [hf] at this; cases this
 | cons x l => exact ⟨x,l,rfl⟩
theorem c70 {c : CodeS} (hc : Okay c) (hf : Fit c) {n : Nat} (hi : n < c.routs.2.length) (a b : Int) (i : InstS) (hok : i.ok = true) (σ : St) :
  Ret W 70 [pvCode c,.int .i64 n,pvInst i,.int .i64 a,.int .i64 b] σ (.int .i64 (instE c a b i n)) := by
 refine ret_of fun R hR => ?_
 rw [fn70_eq]
 unfold fn70
 have fin : ∀ v : Int,instE c a b i n = v → weakW σ (.int .i64 v) σ fun v σ => R (.ret v) σ := fun v hv => by
  rw [hv] at hR
  exact weakW_keep hR
 clear hR
 have hout := hf.out hi
 have hlen : (n : Int) < len c.routs := by unfold len; omega
 simp only [code_parts,inst_parts3,zz,Nat.reduceEqDiff]
 refine (c18 _ _).callB ?_
 cases hk : knownS i.op with
 | false =>
  have : formS i.op = [] := by simp only [formS,hk,Bool.false_eq_true,if_false]
  simp only [this,zz,Nat.reduceEqDiff]
  refine condB (fun _ => ?_) (fun h => by cases h)
  refine fin _ ?_
  simp only [instE,hk,Bool.not_false,if_true]
 | true =>
 have hne : vBin none .eql (.str (formS i.op)) (.str []) = some (.bool false) := by
  obtain ⟨x,l,h⟩ := form_some hk
  rw [h]
  rfl
 have hbs : ∀ o ∈ [i.s,i.t,i.d],o.b < 9223372036854775808 := by
  intro o ho
  simp only [InstS.ok,OperS.ok,inI64,Bool.and_eq_true,decide_eq_true_eq] at hok
  simp at ho
  rcases ho with rfl | rfl | rfl <;> omega
 have s0 : vStrAt (.str (formS i.op)) (.int .i64 0) = some (.int .u8 (lf i.op 0)) := str_at (k := 0) hk (by omega)
 have s1 : vStrAt (.str (formS i.op)) (.int .i64 1) = some (.int .u8 (lf i.op 1)) := str_at (k := 1) hk (by omega)
 have s2 : vStrAt (.str (formS i.op)) (.int .i64 2) = some (.int .u8 (lf i.op 2)) := str_at (k := 2) hk (by omega)
 have s3 : vStrAt (.str (formS i.op)) (.int .i64 3) = some (.int .u8 (lf i.op 3)) := str_at (k := 3) hk (by omega)
 have s4 : vStrAt (.str (formS i.op)) (.int .i64 4) = some (.int .u8 (lf i.op 4)) := str_at (k := 4) hk (by omega)
 simp only [hne,s0,s1,s2,s3,s4,inst_opers,inst_parts3,zz,Nat.reduceEqDiff]
 refine (c132 hc hf hi (by omega) (by omega) i.s (hbs _ (by simp)) _ _).callB ?_
 simp only [zz,Nat.reduceEqDiff]
 refine orG (!operandS c i.t (lf i.op 1) n) (fun _ J hJ => ?_) ?_
 ·refine (c132 hc hf hi (by omega) (by omega) i.t (hbs _ (by simp)) _ _).callB ?_
  simp only [zz,Nat.reduceEqDiff]
  exact hJ _ rfl
 refine orG (!operandS c i.d (lf i.op 2) n) (fun _ J hJ => ?_) ?_
 ·refine (c132 hc hf hi (by omega) (by omega) i.d (hbs _ (by simp)) _ _).callB ?_
  simp only [zz,Nat.reduceEqDiff]
  exact hJ _ rfl
 refine condB (fun hb => ?_) (fun hb => ?_)
 ·refine fin _ ?_
  have : modeBad c i n = true := hb
  simp only [instE,hk,this,Bool.not_true,Bool.false_eq_true,if_false,if_true]
 have hmf : modeBad c i n = false := hb
 have hnum := number_eq hout hlen a b i (by omega) (by omega) hk hmf
 refine (c133 c i _ _).callB ?_
 simp only [zz,Nat.reduceEqDiff]
 refine orG (!secondS c a b i (lf i.op 4) n) (fun _ J hJ => ?_) ?_
 ·refine (c134 hc hf hi a b i _ (by omega) (by omega) _).callB ?_
  rw [hnum]
  simp only [zz,Nat.reduceEqDiff]
  exact hJ _ rfl
 refine condB (fun hb => ?_) (fun hb => ?_)
 ·refine fin _ ?_
  have : numBad c a b i n = true := hb
  simp only [instE,hk,hmf,this,Bool.not_true,Bool.false_eq_true,if_false,if_true]
 have hnb : numBad c a b i n = false := hb
 have hte : instE c a b i n = tableS c i n := by
  simp only [instE,hk,hmf,hnb,Bool.not_true,Bool.false_eq_true,if_false]
 rw [hte] at fin
 have h2 : secondS c a b i (lf i.op 4) n = true := by
  simp only [Bool.or_eq_false_iff,Bool.not_eq_false'] at hb
  exact hb.2
 obtain ⟨l1,l2,-⟩ := letters hk
 clear hb hnb hte hnum hmf hne
 refine CutW_by (fun x τ => x 11 = .str (formS i.op) ∧ x 5 = pvCode c ∧ x 7 = pvInst i ∧ τ = σ ∧ (lf i.op 4 = 99 → jumpB c i n = false)) (fun x τ hx => ?_) ?_
 case refine_2 =>
  refine condL (fun hl => ?_) (fun hl => ?_)
  ·have hop := l1.1 hl
   rw [hl] at h2
   have h3 : inS i.k (len c.jumps) = true := h2
   simp only [inS,Bool.and_eq_true,decide_eq_true_eq] at h3
   have hix : vIndex 1 (pvSl pvInts c.jumps) (.int .i64 i.k) = some (.eptr (pvInts (atI (.nil,[]) c.jumps i.k)) 0) := idxI encInts (.nil,[]) h3.1 h3.2
   have hts : tableS c i n = if jumpB c i n then 11 else 0 := by
    simp only [tableS]
    rw [if_pos hop]
   have htl : (atI (.nil,[]) c.jumps i.k).2.length ≤ 1048576 := by
    unfold atI
    rw [List.getD_eq_getElem?_getD]
    cases hq : c.jumps.2[i.k.toNat]? with
    | none => simp
    | some m => exact hc.jump m (List.mem_of_getElem? hq)
   unfold jumpB at hts ⊢
   generalize atI (.nil,[]) c.jumps i.k = t at hix hts htl
   have hlt : ∀ σ : St,vLen .sl (pvInts t) σ = some (.int .i64 (len t)) := fun σ => sl_len _ _ _
   simp only [hix,encInts.part,zz,Nat.reduceEqDiff]
   refine CutW_by (fun x τ => x 11 = .str (formS i.op) ∧ x 5 = pvCode c ∧ x 7 = pvInst i ∧ x 12 = pvInts t ∧ τ = σ ∧ t.2.any (outB (rAt c n)) = false) (fun x τ hx => ?_) ?_
   ·obtain ⟨q1,q2,q3,q4,rfl,hany⟩ := hx
    rw [hany,Bool.or_false] at hts
    simp only [q1,q2,q3,q4,hlt,zz,Nat.reduceEqDiff]
    refine condB (fun hb => ?_) (fun hb => ?_)
    ·refine fin _ ?_
     rw [hts,if_pos hb]
    ·refine ⟨trivial,trivial,trivial,trivial,fun _ => ?_⟩
     rw [hany,hb]
     rfl
   refine Lfp_any t.2 (outB (rAt c n)) (fun j => lookP [(1,.int .i64 n),(11,.str (formS i.op)),(12,pvInts t),(13,.int .i64 j),(5,pvCode c),(7,pvInst i)]) _ rfl (fun hb Φ => ?_) (fun Φ j k hg hmem hj hit next => ?_)
   ·simp only [hlt,not_lt_len,Nat.lt_irrefl,decide_false,zz,Nat.reduceEqDiff]
    exact ⟨trivial,trivial,trivial,trivial,trivial,hb⟩
   have hi' : vIndex 1 (pvInts t) (.int .i64 j) = some (.eptr (pvI k) 0) := sl_idx encI hg
   simp only [hlt,lt_len hj,hj,decide_true,hi',encI.part,code_parts,zz,Nat.reduceEqDiff]
   refine (c135 (by omega) _ _).callB ?_
   have ho : (decide ((n : Int) ≥ 0) && inRout c n k) = !outB (rAt c n) k := by
    rw [decide_eq_true (show (n : Int) ≥ 0 by omega),Bool.true_and]
    simp only [inRout,outB]
    rw [Bool.eq_iff_iff]
    simp only [Bool.and_eq_true,Bool.not_eq_true',Bool.or_eq_false_iff,decide_eq_true_eq,decide_eq_false_iff_not]
    omega
   rw [ho]
   simp only [Bool.not_not,zz,Nat.reduceEqDiff]
   refine condB (fun hb => ?_) (fun hb => ?_)
   ·refine fin _ ?_
    rw [hts,hit hb,Bool.or_true,if_pos rfl]
   ·rw [vBin_add _ (by omega) (by omega)]
    simp only [zz,Nat.reduceEqDiff]
    exact next hb
  ·exact ⟨rfl,rfl,rfl,rfl,fun h => absurd h hl⟩
 obtain ⟨q1,q2,q3,rfl,hjb⟩ := hx
 simp only [q1,q2,q3,s4,code_parts,inst_parts3,zz,Nat.reduceEqDiff]
 refine CutW_by (fun x τ' => τ' = τ ∧ tableS c i n = 0) (fun x τ' hx => ?_) ?_
 ·obtain ⟨rfl,hz⟩ := hx
  exact fin _ hz
 refine condL (fun hl => ?_) (fun hl => ?_)
 ·have hop := l2.1 hl
  rw [hl] at h2
  have h3 : inS i.k (len c.parts) = true := h2
  simp only [inS,Bool.and_eq_true,decide_eq_true_eq] at h3
  have hix : vIndex 1 (pvSl pvInts c.parts) (.int .i64 i.k) = some (.eptr (pvInts (atI (.nil,[]) c.parts i.k)) 0) := idxI encInts (.nil,[]) h3.1 h3.2
  have hts : tableS c i n = if (atI (.nil,[]) c.parts i.k).2.any partB then 11 else 0 := by
   simp only [tableS]
   rw [if_neg (by omega),if_pos hop]
  have htl : (atI (.nil,[]) c.parts i.k).2.length ≤ 1048576 := by
   unfold atI
   rw [List.getD_eq_getElem?_getD]
   cases hq : c.parts.2[i.k.toNat]? with
   | none => simp
   | some m => exact hc.part m (List.mem_of_getElem? hq)
  generalize atI (.nil,[]) c.parts i.k = t at hix hts htl
  have hlt : ∀ σ : St,vLen .sl (pvInts t) σ = some (.int .i64 (len t)) := fun σ => sl_len _ _ _
  simp only [hix,encInts.part,zz,Nat.reduceEqDiff]
  refine Lfp_any t.2 partB (fun j => lookP [(14,pvInts t),(15,.int .i64 j)]) _ rfl (fun hb Φ => ?_) (fun Φ j k hg hmem hj hit next => ?_)
  ·simp only [hlt,not_lt_len,Nat.lt_irrefl,decide_false,zz,Nat.reduceEqDiff]
   rw [hb,if_neg (by simp)] at hts
   exact ⟨trivial,hts⟩
  have hi' : vIndex 1 (pvInts t) (.int .i64 j) = some (.eptr (pvI k) 0) := sl_idx encI hg
  have hpv : pvI k = .int .i64 k := rfl
  simp only [hlt,lt_len hj,hj,decide_true,hi',encI.part,hpv,zz,Nat.reduceEqDiff]
  refine orG (decide (k ≥ 64)) (fun _ J hJ => ?_) ?_
  ·try simp only [hi',encI.part,zz,Nat.reduceEqDiff]
   exact hJ _ rfl
  refine condB (fun hb => ?_) (fun hb => ?_)
  ·refine fin _ ?_
   rw [hts,hit hb,if_pos rfl]
  ·rw [vBin_add _ (by omega) (by omega)]
   simp only [zz,Nat.reduceEqDiff]
   exact next hb
 ·refine ⟨rfl,?_⟩
  simp only [tableS]
  by_cases hop : i.op = 11 ∨ i.op = 12 ∨ i.op = 19
  ·rw [if_pos hop,hjb (l1.2 hop),if_neg (by simp)]
  ·rw [if_neg hop,if_neg (fun h => hl (l2.2 h))]
end Go.Proofs.YtgghfcchanilpaaGreatDoor

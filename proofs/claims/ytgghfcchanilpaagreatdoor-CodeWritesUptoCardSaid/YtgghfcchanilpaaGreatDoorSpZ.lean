import Derived.Test.YtgghfcchanilpaaGreatDoorSpV
set_option linter.unusedVariables false
set_option linter.unusedSimpArgs false
namespace Go.Proofs.YtgghfcchanilpaaGreatDoor
open Go Go.Abs
theorem c234 {c : CodeS} {i : Nat} (ho : OutOk c i) (hi : (i : Int) < len c.routs) {m : Nat} {r : Int} (h0 : 0 ≤ r) (h1 : r ≤ i) (hm : m < 9223372036854775808) (hf : 0 ≤ furS c m r) (σ : St) : Ret W 234 [pvCode c,.int .i64 r,.int .i64 m] σ (.bool (leadsN c m r)) := by
 refine ret_of fun R hR => ?_
 rw [fn234_eq]
 unfold fn234
 simp only [code_parts,zz,Nat.reduceEqDiff]
 generalize hF : leadsN c m r = F at hR
 refine CutW_by (fun x τ => F = true ∧ τ = σ) (fun x τ hx => ?_) ?_
 ·obtain ⟨h1,rfl⟩ := hx
  rw [h1] at hR
  exact weakW_keep hR
 refine Lfp_down (fun m x τ => ∃ r : Int,0 ≤ r ∧ r ≤ i ∧ m < 9223372036854775808 ∧ 0 ≤ furS c m r ∧ x = lookP [(1,.int .i64 r),(7,.int .i64 m),(3,pvCode c)] ∧ τ = σ ∧ leadsN c m r = F) ?_ m ⟨r,h0,h1,hm,hf,rfl,rfl,hF⟩
 rintro Φ m x τ ⟨r,h0,h1,hm,hf,rfl,rfl,hF⟩ next _
 simp only [code_parts,zz,Nat.reduceEqDiff]
 cases m with
 | zero =>
  have e : decide (((0 : Nat) : Int) > 0) = false := rfl
  simp only [e,zz,Nat.reduceEqDiff]
  exact ⟨hF.symm,trivial⟩
 | succ m =>
  have e : decide (((m + 1 : Nat) : Int) > 0) = true := decide_eq_true (by omega)
  have hk := ho r.toNat (by omega)
  rw [Int.toNat_of_nonneg h0] at hk
  have hix : vIndex 9 (pvSl pvRout c.routs) (.int .i64 r) = some (.eptr (pvRout (rAt c r)) 0) := idxI encRout zRout h0 (by omega)
  have hr : ¬ r < 0 := by omega
  simp only [furS,hr,if_false] at hf
  have hb' := furS_bound ho m (rAt c r).outer hk.1 (by omega)
  simp only [leadsN] at hF
  simp only [e,hix,fldE,rout_parts,zz,Nat.reduceEqDiff,Nat.reduceAdd]
  refine orG (decide ((rAt c r).level > ((m + 1 : Nat) : Int))) (fun _ J hJ => ?_) ?_
  ·try simp only [hix,fldE,rout_parts,zz,Nat.reduceEqDiff,Nat.reduceAdd]
   exact hJ _ rfl
  refine condB (fun hb => ?_) (fun hb => ?_)
  ·rw [if_pos hb] at hF
   subst hF
   exact weakW_keep hR
  ·rw [if_neg (by rw [hb]; simp)] at hF
   rw [vBin_sub _ (by omega) (by omega)]
   simp only [zz,Nat.reduceEqDiff]
   refine next _ _ m (by omega) ⟨(rAt c r).outer,by omega,by omega,by omega,hf,?_,rfl,hF⟩
   congr 4
   simp
theorem furR_at {c : CodeS} {i : Nat} (ho : OutOk c i) (hi : (i : Int) < len c.routs) {r n : Int} (h0 : 0 ≤ r) (h1 : r ≤ i) (hn : 0 ≤ n) : furR c r n = furS c n.toNat r := by
 unfold furR
 split
 ·exact (furS_far ho _ _ (by omega) (by omega) (by omega)).symm
 ·rfl
theorem reach_ref {c : CodeS} {i : Nat} (ho : OutOk c i) (hi : (i : Int) < len c.routs) {r n : Int} (h0 : 0 ≤ r) (h1 : r ≤ i) :
  (reachS c r n).2 = (decide (0 ≤ furR c r n) && leadsN c n.toNat r) ∧ ((reachS c r n).2 = true → (reachS c r n).1 = furR c r n) := by
 unfold reachS
 by_cases hn : n < 0
 ·have : furR c r n = -1 := by unfold furR; rw [if_pos (by omega)]
  rw [if_pos hn,this]
  simp
 ·rw [if_neg hn,furR_at ho hi h0 h1 (by omega),reach_leads ho _ _ h0 h1]
  by_cases hc : furS c n.toNat r ≥ 0 ∧ leadsN c n.toNat r = true
  ·rw [if_pos hc]
   simp [hc.1,hc.2]
  ·rw [if_neg hc]
   simp only [Bool.false_eq_true,false_implies,and_true]
   by_cases h : furS c n.toNat r ≥ 0
   ·have : leadsN c n.toNat r = false := by simpa [h] using hc
    simp [this]
   ·have : ¬ 0 ≤ furS c n.toNat r := h
    simp [this]
theorem c132 {c : CodeS} (hc : Okay c) (hf : Fit c) {i : Nat} (hi : i < c.routs.2.length) {r : Int} (h0 : 0 ≤ r) (h1 : r ≤ i) (o : OperS) (ho : o.b < 9223372036854775808) (l : Int) (σ : St) : Ret W 132 [pvCode c,.int .i64 r,pvOper o,.int .u8 l] σ (.bool (operandS c o l r)) := by
 refine ret_of fun R hR => ?_
 rw [fn132_eq]
 unfold fn132
 have hout := hf.out hi
 have hlen : (i : Int) < len c.routs := by unfold len; omega
 have fin : ∀ b : Bool,operandS c o l r = b → weakW σ (.bool b) σ fun v σ => R (.ret v) σ := fun n hb => by
  rw [hb] at hR
  exact weakW_keep hR
 clear hR
 simp only [code_parts,oper_parts3,zz,Nat.reduceEqDiff]
 refine condB (fun hk => ?_) (fun hk => ?_)
 ·simp only [beq_iff_eq] at hk
  refine orG (l == 111) (fun _ J hJ => hJ _ rfl) ?_
  refine andG (o.a == 0) (fun _ J hJ => hJ _ rfl) ?_
  refine andG (o.b == 0) (fun _ J hJ => hJ _ rfl) ?_
  refine fin _ ?_
  simp only [operandS,hk,if_true]
 simp only [beq_eq_false_iff_ne,ne_eq] at hk
 refine (c125 hc hout hlen (by omega) h1 _).callB ?_
 obtain ⟨hr2,hr1⟩ := reach_ref (n := o.b) hout hlen h0 h1
 simp only [zz,Nat.reduceEqDiff]
 refine orG (!leadsN c o.b.toNat r) (fun hx J hJ => ?_) ?_
 ·simp only [decide_eq_false_iff_not] at hx
  have hnn : 0 ≤ o.b := by
   rcases Int.lt_or_le o.b 0 with h | h
   ·exact absurd (show furR c r o.b < 0 by unfold furR; rw [if_pos (Or.inl h)]; omega) hx
   ·exact h
  have hfu : furR c r o.b = furS c o.b.toNat r := furR_at hout hlen h0 h1 hnn
  have hcall := c234 (m := o.b.toNat) hout hlen h0 h1 (by omega) (by omega) σ
  rw [Int.toNat_of_nonneg hnn] at hcall
  refine hcall.callB ?_
  simp only [zz,Nat.reduceEqDiff]
  exact hJ _ rfl
 refine condB (fun hb => ?_) (fun hb => ?_)
 ·refine fin _ ?_
  have h2 : (reachS c r o.b).2 = false := by
   rw [hr2]
   simp only [Bool.or_eq_true,decide_eq_true_eq,Bool.not_eq_true'] at hb
   rcases hb with hb | hb
   ·rw [decide_eq_false (by omega)]; rfl
   ·rw [hb,Bool.and_false]
  simp only [operandS,hk,h2,if_false,Bool.and_false,Bool.false_and]
  simp
 have h2 : (reachS c r o.b).2 = true := by
  rw [hr2]
  simp only [Bool.or_eq_false_iff,decide_eq_false_iff_not,Bool.not_eq_false'] at hb
  rw [decide_eq_true (by omega),hb.2]
  rfl
 have h3 := hr1 h2
 obtain ⟨f0,f1⟩ := reach_in hout h0 h1 h2
 have hos : operandS c o l r = if o.k = 1 then ((l == 115 || l == 111) && true) && inS o.a (len (mAt c (rAt c (furR c r o.b)).frame)) else if o.k = 2 then ((l == 114) && true) && inS o.a (len (rAt c (furR c r o.b)).ranges) else false := by
  simp only [operandS,hk,if_false,h2,h3]
 rw [h3] at f0 f1
 generalize furR c r o.b = f at f0 f1 hos
 have hfr := hf.frame f0 (by omega)
 have hix : vIndex 9 (pvSl pvRout c.routs) (.int .i64 f) = some (.eptr (pvRout (rAt c f)) 0) := idxI encRout zRout f0 (by omega)
 have hix2 : vIndex 1 (pvSl pvMap c.maps) (.int .i64 (rAt c f).frame) = some (.eptr (pvMap (mAt c (rAt c f).frame)) 0) := idxI encMap (.nil,[]) hfr.1 hfr.2
 simp only [Bool.and_true] at hos
 refine condB (fun hk1 => ?_) (fun hk1 => ?_)
 ·simp only [beq_iff_eq] at hk1
  refine orG (l == 111) (fun _ J hJ => hJ _ rfl) ?_
  refine andG (inS o.a (len (mAt c (rAt c f).frame))) (fun hx J hJ => ?_) ?_
  ·simp only [hix,hix2,fldE,rout_parts,map_part,sl_len,zz,Nat.reduceEqDiff,Nat.reduceAdd]
   refine (c75 _ _ _).callB ?_
   exact hJ _ rfl
  refine fin _ ?_
  rw [hos,if_pos hk1]
 simp only [beq_eq_false_iff_ne,ne_eq] at hk1
 rw [if_neg hk1] at hos
 refine andG (l == 114) (fun _ J hJ => hJ _ rfl) ?_
 refine andG (inS o.a (len (rAt c f).ranges)) (fun hx J hJ => ?_) ?_
 ·simp only [hix,fldE,rout_parts,sl_len,zz,Nat.reduceEqDiff,Nat.reduceAdd]
  refine (c75 _ _ _).callB ?_
  exact hJ _ rfl
 refine fin _ ?_
 rw [hos]
 by_cases hk2 : o.k = 2
 ·simp [hk2]
 ·have : (o.k == 2) = false := by simpa using hk2
  simp [hk2,this]
end Go.Proofs.YtgghfcchanilpaaGreatDoor
namespace Go.Proofs.YtgghfcchanilpaaGreatDoor
open Go Go.Abs
theorem c133 (c : CodeS) (i : InstS) (l : Int) (σ : St) : Ret W 133 [pvCode c,pvInst i,.int .u8 l] σ (.bool (wideS c i l)) := by
 refine ret_of fun R hR => ?_
 rw [fn133_eq]
 unfold fn133
 have fin : ∀ b : Bool,wideS c i l = b → weakW σ (.bool b) σ fun v σ => R (.ret v) σ := fun n hb => by
  rw [hb] at hR
  exact weakW_keep hR
 clear hR
 simp only [code_parts,inst_parts3,sl_len,zz,Nat.reduceEqDiff]
 repeat' first
  | (refine CutW_of ?_; try simp only [code_parts,inst_parts3,sl_len,zz,Nat.reduceEqDiff])
  | (refine condL (fun hl => ?_) (fun hl => ?_))
  | (refine guardB (fun hb => ?_) (fun hb => ?_) <;> simp only [hb,zz,Nat.reduceEqDiff])
  | refine fin _ ?_
 all_goals (clear fin; rw [Bool.eq_iff_iff]; unfold wideS; (repeat' split) <;> (try simp_all) <;> (try omega))
theorem c135 {c : CodeS} {r : Int} (h1 : r < len c.routs) (k : Int) (σ : St) : Ret W 135 [pvCode c,.int .i64 r,.int .i64 k] σ (.bool (decide (r ≥ 0) && inRout c r k)) := by
 refine ret_of fun R hR => ?_
 rw [fn135_eq]
 unfold fn135
 simp only [code_parts,zz,Nat.reduceEqDiff]
 unfold inRout at hR
 rw [← Bool.and_assoc] at hR
 have hix : r ≥ 0 → vIndex 9 (pvSl pvRout c.routs) (.int .i64 r) = some (.eptr (pvRout (rAt c r)) 0) := fun h => idxI encRout zRout h h1
 refine andG (decide (k ≥ (rAt c r).fr)) (fun hx J hJ => ?_) ?_
 ·simp only [decide_eq_true_eq] at hx
  simp only [hix hx,fldE,rout_parts,zz,Nat.reduceEqDiff,Nat.reduceAdd]
  exact hJ _ rfl
 refine andG (decide (k < (rAt c r).to)) (fun hx J hJ => ?_) ?_
 ·simp only [Bool.and_eq_true,decide_eq_true_eq] at hx
  simp only [hix hx.1,fldE,rout_parts,zz,Nat.reduceEqDiff,Nat.reduceAdd]
  exact hJ _ rfl
 exact weakW_keep hR
end Go.Proofs.YtgghfcchanilpaaGreatDoor
namespace Go.Proofs.YtgghfcchanilpaaGreatDoor
open Go Go.Abs
def numberS (c : CodeS) (rows idents : Int) (i : InstS) (l r : Int) : Bool :=
 if l = 74 then decide (furR c r i.s.b ≥ 0) && inRout c (furR c r i.s.b) i.k else secondS c rows idents i l r
theorem c134 {c : CodeS} (hc : Okay c) (hf : Fit c) {n : Nat} (hi : n < c.routs.2.length) (a b : Int) (i : InstS) (l : Int) {r : Int} (h0 : 0 ≤ r) (h1 : r ≤ n) (σ : St) :
  Ret W 134 [pvCode c,.int .i64 r,pvInst i,.int .u8 l,.int .i64 a,.int .i64 b] σ (.bool (numberS c a b i l r)) := by
 refine ret_of fun R hR => ?_
 rw [fn134_eq]
 unfold fn134
 have hout := hf.out hi
 have hlen : (n : Int) < len c.routs := by unfold len; omega
 have fin : ∀ v : Bool,numberS c a b i l r = v → weakW σ (.bool v) σ fun v σ => R (.ret v) σ := fun v hv => by
  rw [hv] at hR
  exact weakW_keep hR
 clear hR
 have hix : vIndex 9 (pvSl pvRout c.routs) (.int .i64 r) = some (.eptr (pvRout (rAt c r)) 0) := idxI encRout zRout h0 (by omega)
 simp only [code_parts,inst_parts3,sl_len,hix,fldE,rout_parts,zz,Nat.reduceEqDiff,Nat.reduceAdd]
 refine CutW_by (fun x τ => x 13 = .int .i64 i.k ∧ τ = σ ∧ numberS c a b i l r = (i.k == 0)) (fun x τ hx => ?_) ?_
 ·obtain ⟨h9,rfl,hw⟩ := hx
  simp only [h9,zz,Nat.reduceEqDiff]
  exact fin _ hw
 repeat' first
  | contradiction
  | refine condL (fun hl => ?_) (fun hl => ?_)
  | (refine (c75 _ _ _).callB ?_; refine fin _ ?_; clear fin hix; subst hl; rfl)
 ·refine andG (decide (i.k ≤ 1000)) (fun _ J hJ => hJ _ rfl) ?_
  refine fin _ ?_
  clear fin hix
  subst hl
  rfl
 ·refine andG (decide (i.k ≤ 3)) (fun _ J hJ => hJ _ rfl) ?_
  refine fin _ ?_
  clear fin hix
  subst hl
  rfl
 ·refine andG (decide (i.k < len c.routs)) (fun _ J hJ => hJ _ rfl) ?_
  refine andG ((rAt c i.k).outer == r) (fun hx J hJ => ?_) ?_
  ·simp only [Bool.and_eq_true,decide_eq_true_eq] at hx
   have hix2 : vIndex 9 (pvSl pvRout c.routs) (.int .i64 i.k) = some (.eptr (pvRout (rAt c i.k)) 0) := idxI encRout zRout (by omega) hx.2
   simp only [hix2,fldE,rout_parts,zz,Nat.reduceEqDiff,Nat.reduceAdd]
   exact hJ _ rfl
  refine fin _ ?_
  clear fin hix
  subst hl
  rfl
 ·refine andG (decide (i.k < len (rAt c r).ranges)) (fun _ J hJ => ?_) ?_
  ·try simp only [hix,fldE,rout_parts,sl_len,zz,Nat.reduceEqDiff,Nat.reduceAdd]
   exact hJ _ rfl
  refine fin _ ?_
  clear fin hix
  subst hl
  rfl
 ·refine (c135 (by omega) _ _).callB ?_
  refine fin _ ?_
  clear fin hix
  subst hl
  rw [decide_eq_true h0,Bool.true_and]
  rfl
 ·refine (c125 hc hout hlen (by omega) h1 _).callB ?_
  have hfb : furR c r i.s.b < len c.routs := by
   unfold furR
   split
   ·omega
   ·have := furS_bound hout i.s.b.toNat r (by omega) h1
    omega
  refine (c135 hfb _ _).callB ?_
  refine fin _ ?_
  clear fin hix
  subst hl
  rfl
 ·refine ⟨rfl,rfl,?_⟩
  clear fin hix
  simp only [numberS,secondS,mostS, *,if_false,or_self,inS]
  rw [Bool.eq_iff_iff]
  simp only [Bool.and_eq_true,decide_eq_true_eq,beq_iff_eq]
  omega
end Go.Proofs.YtgghfcchanilpaaGreatDoor

import Derived.Test.YtgghfcchanilpaaGreatDoorSpZb
import Derived.Test.YtgghfcchanilpaaGreatDoorSpD
set_option linter.unusedVariables false
set_option linter.unusedSimpArgs false
namespace Go.Proofs.YtgghfcchanilpaaGreatDoor
open Go Go.Abs
theorem check_at {c : CodeS} {a b : Int} {j : Nat} (hj : j < 5) (hp : ∀ k,k < j → headE c k = 0) (he : headE c j ≠ 0) : checkS c a b = (0,headE c j) := by
 unfold checkS
 rw [firstE_at hp he hj,if_pos he]
theorem check_on {c : CodeS} {a b : Int} (hp : ∀ k,k < 5 → headE c k = 0) : checkS c a b = firstAt (atE c a b) c.insts.2.length := by
 unfold checkS
 rw [firstE_zero hp,if_neg (by omega)]
theorem head_upto {c : CodeS} : ∀ {n : Nat},(∀ k,k < n → headE c k = 0) → headE c n = 0 → ∀ k,k < n + 1 → headE c k = 0 := fun h h1 k hk => by
 rcases Nat.lt_succ_iff_lt_or_eq.1 hk with hk | rfl
 ·exact h k hk
 ·exact h1
theorem c25 {c : CodeS} (hc : Okay c) (hn : Nums c) (σ : St) : Ret W 25 [pvCode c] σ (pvSig (checkS c 470 49)) := by
 refine ret_of fun R hR => ?_
 rw [fn25_eq]
 unfold fn25
 have hil := hc.insts
 have hrl := hc.routs
 have fin : ∀ p : Int × Int,checkS c 470 49 = p → weakW σ (pvSig p) σ fun v σ => R (.ret v) σ := fun p hp => by
  rw [hp] at hR
  exact weakW_keep hR
 clear hR
 have h0 : headE c 0 = if overB c then 3 else 0 := rfl
 have h1 : headE c 1 = if slotsBad c then 13 else 0 := rfl
 have h2 : headE c 2 = linksE c := rfl
 have h3 : headE c 3 = routsE c := rfl
 have h4 : headE c 4 = tablesE c := rfl
 simp only [code_parts,zz,Nat.reduceEqDiff]
 refine (c64 hc _).callB ?_
 simp only [Bool.not_not,zz,Nat.reduceEqDiff]
 refine condB (fun hb => ?_) (fun hb => ?_)
 ·rw [hb,if_pos rfl] at h0
  simp only [flt_parts,zz,Nat.reduceEqDiff]
  refine fin (0,3) ?_
  rw [check_at (j := 0) (by omega) (fun k hk => by omega) (by omega),h0]
 rw [hb,if_neg (by simp)] at h0
 have p1 : ∀ k,k < 1 → headE c k = 0 := head_upto (fun k hk => by omega) h0
 refine (c65 hc _).callB ?_
 simp only [flt_ne,zz,Nat.reduceEqDiff]
 refine condB (fun hb1 => ?_) (fun hb1 => ?_)
 ·have hne : slotsE c ≠ 0 := by simpa using hb1
  simp only [flt_parts,zz,Nat.reduceEqDiff]
  refine fin (0,slotsE c) ?_
  unfold slotsE at hne ⊢
  cases hs : slotsBad c with
  | true =>
   rw [hs,if_pos rfl] at h1
   rw [if_pos rfl,check_at (j := 1) (by omega) p1 (by omega),h1]
  | false =>
   rw [hs,if_neg (by simp)] at h1
   rw [hs,if_neg (by simp)] at hne
   rw [if_neg (by simp),check_at (j := 2) (by omega) (head_upto p1 h1) (by rw [h2]; exact hne),h2]
 have hz : slotsE c = 0 := by simpa using hb1
 have hs12 : headE c 1 = 0 ∧ headE c 2 = 0 := by
  unfold slotsE at hz
  cases hs : slotsBad c with
  | true => rw [hs,if_pos rfl] at hz; omega
  | false =>
   rw [hs,if_neg (by simp)] at h1 hz
   exact ⟨h1,by rw [h2]; exact hz⟩
 have p3 : ∀ k,k < 3 → headE c k = 0 := head_upto (head_upto p1 hs12.1) hs12.2
 have hsig := sigs_ok (by rw [← h2]; exact hs12.2)
 clear hb hb1 hz hs12 p1 h0 h1 h2
 refine CutW_by (fun x τ => x 1 = pvCode c ∧ x 2 = .agg [.int .i64 0,.int .i64 0] ∧ τ = σ ∧ ∀ k,k < c.routs.2.length → routE c k = 0) (fun x τ hx => ?_) ?_
 case refine_2 =>
  refine Lfp_first c.routs.2.length (routE c) (fun j => lookP [(4,.int .i64 j),(1,pvCode c),(2,.agg [.int .i64 0,.int .i64 0])]) σ rfl (fun hall Φ => ?_) (fun Φ j hj hpre hhit next => ?_)
  ·simp only [code_parts,sl_len,not_lt_len,Nat.lt_irrefl,decide_false,zz,Nat.reduceEqDiff]
   exact ⟨trivial,trivial,trivial,hall⟩
  simp only [code_parts,sl_len,lt_len hj,hj,decide_true,zz,Nat.reduceEqDiff]
  refine (c66 hc hsig hj (fun k hk => headBad_of (hpre k hk)) _).callB ?_
  simp only [flt_ne,zz,Nat.reduceEqDiff]
  refine condB (fun hbad => ?_) (fun hbad => ?_)
  ·have hne : routE c j ≠ 0 := by simpa using hbad
   simp only [flt_parts,zz,Nat.reduceEqDiff]
   refine fin (0,routE c j) ?_
   have h5 : routsE c = routE c j := by
    unfold routsE
    rw [if_neg (by unfold len; omega)]
    exact hhit hne
   rw [check_at (j := 3) (by omega) p3 (by rw [h3,h5]; exact hne),h3,h5]
  ·have hz : routE c j = 0 := by simpa using hbad
   rw [vBin_add _ (by omega) (by omega)]
   simp only [zz,Nat.reduceEqDiff]
   exact next hz
 obtain ⟨q1,q2,rfl,hall⟩ := hx
 simp only [q1,q2,code_parts,sl_len,zz,Nat.reduceEqDiff]
 clear q1 q2 x
 refine condB (fun hb => ?_) (fun hb => ?_)
 ·have hl0 : len c.routs = 0 := by simpa using hb
  have h5 : routsE c = 12 := by
   unfold routsE
   rw [if_pos hl0]
  simp only [flt_parts,zz,Nat.reduceEqDiff]
  refine fin (0,12) ?_
  rw [check_at (j := 3) (by omega) p3 (by rw [h3,h5]; omega),h3,h5]
 have hl0 : ¬ len c.routs = 0 := by simpa using hb
 have h5 : routsE c = 0 := by
  unfold routsE
  rw [if_neg hl0]
  exact firstE_zero hall
 have p4 : ∀ k,k < 4 → headE c k = 0 := head_upto p3 (h3.trans h5)
 obtain ⟨hf,hr0⟩ := fit_of h5
 clear hb
 refine (c67 hc _).callB ?_
 simp only [flt_ne,zz,Nat.reduceEqDiff]
 refine condB (fun hbad => ?_) (fun hbad => ?_)
 ·have hne : tablesE c ≠ 0 := by simpa using hbad
  simp only [flt_parts,zz,Nat.reduceEqDiff]
  refine fin (0,tablesE c) ?_
  rw [check_at (j := 4) (by omega) p4 (by rw [h4]; exact hne),h4]
 have hz : tablesE c = 0 := by simpa using hbad
 have hcs := check_on (a := 470) (b := 49) (head_upto p4 (h4.trans hz))
 rw [hcs] at fin
 clear hcs hbad hz p3 p4 h3 h4 h5 hall
 refine (c68' _).callB ?_
 simp only [List.length_replicate,zz,Nat.reduceEqDiff]
 refine (c69' _).callB ?_
 have e1 : ((nOpers : Nat) : Int) = 470 := rfl
 have e2 : ((nIdents : Nat) : Int) = 49 := rfl
 simp only [List.length_replicate,e1,e2,zz,Nat.reduceEqDiff]
 refine CutW_by (fun x τ' => x 2 = .agg [.int .i64 0,.int .i64 0] ∧ τ' = τ ∧ ∀ k,k < c.insts.2.length → atE c 470 49 k = 0) (fun x τ' hx => ?_) ?_
 ·obtain ⟨q2,rfl,hall⟩ := hx
  simp only [q2,flt_parts,zz,Nat.reduceEqDiff]
  refine fin (0,0) ?_
  rw [firstAt_zero hall]
 refine Lfp_up c.routs.2.length (fun r x τ' => x = lookP [(7,.int .i64 470),(8,.int .i64 49),(9,.int .i64 r),(1,pvCode c),(2,.agg [.int .i64 0,.int .i64 0])] ∧ τ' = τ ∧ ∀ k : Nat,(k : Int) < fromS c r → atE c 470 49 k = 0) ?_ ⟨rfl,rfl,fun k hk => by simp [fromS] at hk; omega⟩
 rintro Φ r x τ' hr ⟨rfl,rfl,hp⟩ next
 by_cases hlt : r < c.routs.2.length
 case neg =>
  obtain rfl : r = c.routs.2.length := by omega
  simp only [code_parts,sl_len,not_lt_len,Nat.lt_irrefl,decide_false,zz,Nat.reduceEqDiff]
  refine ⟨trivial,trivial,fun k hk => hp k ?_⟩
  have ho := (fit_order hf (i := c.routs.2.length - 1) (by omega)).2.2 (by omega)
  have : fromS c c.routs.2.length = (rAt c (c.routs.2.length - 1 : Nat)).to := by
   unfold fromS
   rw [if_pos (by omega)]
  rw [this,ho]
  unfold len
  omega
 obtain ⟨o1,o2,o3⟩ := fit_order hf hlt
 have hfr := (fit_before hf hlt).1
 have hto : (rAt c r).to ≤ len c.insts := by
  have hl := (fit_order hf (i := c.routs.2.length - 1) (by omega)).2.2 (by omega)
  rcases Nat.lt_or_ge r (c.routs.2.length - 1) with h | h
  ·have := (fit_before hf (i := c.routs.2.length - 1) (by omega)).2 r h
   have := (fit_order hf (i := c.routs.2.length - 1) (by omega)).2.1
   omega
  ·obtain rfl : r = c.routs.2.length - 1 := by omega
   omega
 have hlen : len c.insts = (c.insts.2.length : Int) := rfl
 have hixr : vIndex 9 (pvSl pvRout c.routs) (.int .i64 r) = some (.eptr (pvRout (rAt c r)) 0) := idxI encRout zRout (by omega) (by unfold len; omega)
 rw [← o1] at hp
 simp only [code_parts,sl_len,lt_len hlt,hlt,decide_true,hixr,fldE,rout_parts,zz,Nat.reduceEqDiff,Nat.reduceAdd]
 refine CutW_by (fun x τ => x = lookP [(7,.int .i64 470),(8,.int .i64 49),(9,.int .i64 r),(1,pvCode c),(2,.agg [.int .i64 0,.int .i64 0])] ∧ τ = τ' ∧ ∀ k : Nat,(k : Int) < (rAt c r).to → atE c 470 49 k = 0) (fun x τ hx => ?_) ?_
 ·obtain ⟨rfl,rfl,hall⟩ := hx
  simp only [zz,Nat.reduceEqDiff]
  rw [vBin_add _ (by omega) (by omega)]
  simp only [zz,Nat.reduceEqDiff]
  refine next _ _ hlt ⟨by simp,rfl,fun k hk => hall k ?_⟩
  have : fromS c (r + 1) = (rAt c r).to := by
   unfold fromS
   rw [if_pos (by omega)]
   rfl
  omega
 refine Lfp_up ((rAt c r).to - (rAt c r).fr).toNat (fun j x τ => x = lookP [(7,.int .i64 470),(8,.int .i64 49),(9,.int .i64 r),(10,.int .i64 ((rAt c r).fr + j)),(1,pvCode c),(2,.agg [.int .i64 0,.int .i64 0])] ∧ τ = τ' ∧ ∀ k : Nat,(k : Int) < (rAt c r).fr + j → atE c 470 49 k = 0) ?_ ⟨by simp,rfl,fun k hk => hp k (by omega)⟩
 rintro Ψ j x τ hj ⟨rfl,rfl,hq⟩ next2
 simp only [code_parts,hixr,fldE,rout_parts,zz,Nat.reduceEqDiff,Nat.reduceAdd]
 refine condB (fun hb => ?_) (fun hb => ?_)
 ·have hb' : (rAt c r).fr + j < (rAt c r).to := of_decide_eq_true hb
  obtain ⟨k,hk⟩ := Int.eq_ofNat_of_zero_le (show 0 ≤ (rAt c r).fr + j by omega)
  have hkl : k < c.insts.2.length := by omega
  have hixi : vIndex 12 (pvSl pvInst c.insts) (.int .i64 ((rAt c r).fr + j)) = some (.eptr (pvInst (iAt c k)) 0) := by
   rw [hk]
   exact sl_idx encInst (iAt_get hkl)
  simp only [hixi,encInst.part,zz,Nat.reduceEqDiff]
  refine (c70 hc hf hlt 470 49 (iAt c k) (hn.insts hkl) _).callB ?_
  have hat : instE c 470 49 (iAt c k) r = atE c 470 49 k := by
   unfold atE
   rw [fit_idx hf hlt (k := (k : Int)) (by omega) (by omega)]
  rw [hat,hk]
  simp only [flt_ne,zz,Nat.reduceEqDiff]
  refine condB (fun hbad => ?_) (fun hbad => ?_)
  ·have hne : atE c 470 49 k ≠ 0 := by simpa using hbad
   simp only [flt_parts,zz,Nat.reduceEqDiff]
   refine fin (k,atE c 470 49 k) ?_
   rw [firstAt_at (fun m hm => hq m (by omega)) hne hkl]
  ·have hz' : atE c 470 49 k = 0 := by simpa using hbad
   rw [vBin_add _ (by omega) (by omega)]
   simp only [zz,Nat.reduceEqDiff]
   refine next2 _ _ (by omega) ⟨?_,rfl,fun m hm => ?_⟩
   ·have : (k : Int) + 1 = (rAt c r).fr + (j + 1 : Nat) := by omega
    rw [this]
   ·rcases Int.lt_or_eq_of_le (show (m : Int) ≤ k by omega) with h | h
    ·exact hq m (by omega)
    ·obtain rfl : m = k := by omega
     exact hz'
 ·have hb' : ¬ (rAt c r).fr + j < (rAt c r).to := of_decide_eq_false hb
  exact ⟨trivial,trivial,fun k hk => hq k (by omega)⟩
end Go.Proofs.YtgghfcchanilpaaGreatDoor
namespace Go.Proofs.YtgghfcchanilpaaGreatDoor
open Go Go.Abs
def shortB (l : Sl (Sl Int)) : Bool := !(l.2.any fun t => decide (len t > 20)) && decide (len l ≤ 20)
theorem c55 {l : Sl (Sl Int)} (hl : l.2.length ≤ 1048576) (σ : St) : Ret W 55 [pvSl pvInts l] σ (.bool (shortB l)) := by
 refine ret_of fun R hR => ?_
 rw [fn55_eq]
 unfold fn55
 simp only [zz,Nat.reduceEqDiff]
 refine CutW_by (fun x τ => x 0 = pvSl pvInts l ∧ τ = σ ∧ (l.2.any fun t => decide (len t > 20)) = false) (fun x τ hx => ?_) ?_
 ·obtain ⟨h0,rfl,hb⟩ := hx
  unfold shortB at hR
  rw [hb,Bool.not_false,Bool.true_and] at hR
  simp only [h0,sl_len,zz,Nat.reduceEqDiff]
  exact weakW_keep hR
 refine Lfp_any l.2 (fun t => decide (len t > 20)) (fun j => lookP [(0,pvSl pvInts l),(3,.int .i64 j)]) _ rfl (fun hb Φ => ?_) (fun Φ j t hg hmem hj hit next => ?_)
 ·simp only [sl_len,not_lt_len,Nat.lt_irrefl,decide_false,zz,Nat.reduceEqDiff]
  exact ⟨trivial,trivial,hb⟩
 have ht : vLen .sl (pvInts t) σ = some (.int .i64 (len t)) := sl_len _ _ _
 simp only [sl_len,lt_len hj,hj,decide_true,sl_idx encInts hg,encInts.part,ht,zz,Nat.reduceEqDiff]
 refine condB (fun hb => ?_) (fun hb => ?_)
 ·unfold shortB at hR
  rw [hit hb,Bool.not_true,Bool.false_and] at hR
  exact weakW_keep hR
 ·rw [vBin_add _ (by omega) (by omega)]
  simp only [zz,Nat.reduceEqDiff]
  exact next hb
def RetAny (W : CallP) (f : FuncId) (args : List PV) (σ : St) : Prop := ∀ R : Res → St → Prop,(∀ b : Bool,R (.ret (.bool b)) σ) → W f args σ R
theorem RetAny.callB {W : CallP} {f : FuncId} {args : List PV} {σ : St} (h : RetAny W f args σ) {K X : PV → St → Prop} (k : ∀ b : Bool,K (.bool b) σ) : callB W f args σ K X := h _ k
theorem c23 {c : CodeS} (hc : Okay c) (σ : St) : RetAny W 23 [pvCode c] σ := fun R hR => by
 refine callW_fold ?_
 rw [fn23_eq]
 unfold fn23
 have hm := hc.maps
 have hr := hc.routs
 have ht := hc.texts
 have hx := hc.trans
 simp only [code_parts,sl_len,zz,Nat.reduceEqDiff]
 refine orG (decide (len c.maps > 40)) (fun _ J hJ => hJ _ rfl) ?_
 refine orG (decide (len c.sigs > 20)) (fun _ J hJ => hJ _ rfl) ?_
 refine orG (decide (len c.routs > 5)) (fun _ J hJ => hJ _ rfl) ?_
 refine orG (decide (len c.texts > 20)) (fun _ J hJ => hJ _ rfl) ?_
 refine orG (decide (len c.trans > 20)) (fun _ J hJ => hJ _ rfl) ?_
 refine orG (decide (len c.lines > 200)) (fun _ J hJ => hJ _ rfl) ?_
 refine orG (!shortB c.unions) (fun _ J hJ => ?_) ?_
 ·refine (c55 hc.unions _).callB ?_
  exact hJ _ rfl
 refine orG (!shortB c.jumps) (fun _ J hJ => ?_) ?_
 ·refine (c55 hc.jumps _).callB ?_
  exact hJ _ rfl
 refine orG (!shortB c.parts) (fun _ J hJ => ?_) ?_
 ·refine (c55 hc.parts _).callB ?_
  exact hJ _ rfl
 refine condB (fun hb => ?_) (fun hb => ?_)
 ·exact weakW_keep (hR _)
 clear hb
 refine CutW_by (fun x τ => ∃ b : Bool,x 1 = pvCode c ∧ x 3 = .bool b ∧ τ = σ) (fun x τ hx => ?_) ?_
 case refine_2 =>
  refine Lfp_up c.maps.2.length (fun j x τ => ∃ b : Bool,x = lookP [(3,.bool b),(4,.int .i64 j),(1,pvCode c)] ∧ τ = σ) ?_ ⟨true,rfl,rfl⟩
  rintro Φ j x τ hj ⟨b,rfl,rfl⟩ next
  by_cases hlt : j < c.maps.2.length
  ·have hg : c.maps.2[j]? = some c.maps.2[j] := by simp [hlt]
   generalize c.maps.2[j] = m at hg
   simp only [code_parts,sl_len,lt_len hlt,hlt,decide_true,zz,Nat.reduceEqDiff]
   refine andG (decide (len m ≤ 60)) (fun _ J hJ => ?_) ?_
   ·simp only [sl_idx encMap hg,fldE,map_part,sl_len,zz,Nat.reduceEqDiff,Nat.reduceAdd]
    exact hJ _ rfl
   rw [vBin_add _ (by omega) (by omega)]
   simp only [zz,Nat.reduceEqDiff]
   exact next _ _ hlt ⟨_,rfl,rfl⟩
  ·obtain rfl : j = c.maps.2.length := by omega
   simp only [code_parts,sl_len,not_lt_len,Nat.lt_irrefl,decide_false,zz,Nat.reduceEqDiff]
   exact ⟨b,trivial,rfl,trivial⟩
 obtain ⟨b,q1,q3,rfl⟩ := hx
 simp only [q1,q3,zz,Nat.reduceEqDiff]
 clear q1 q3 x
 refine CutW_by (fun x τ' => ∃ b : Bool,x 1 = pvCode c ∧ x 3 = .bool b ∧ τ' = τ) (fun x τ' hx => ?_) ?_
 case refine_2 =>
  refine Lfp_up c.routs.2.length (fun j x τ' => ∃ b : Bool,x = lookP [(3,.bool b),(5,.int .i64 j),(1,pvCode c)] ∧ τ' = τ) ?_ ⟨b,rfl,rfl⟩
  rintro Φ j x τ' hj ⟨b,rfl,rfl⟩ next
  by_cases hlt : j < c.routs.2.length
  ·have hg : c.routs.2[j]? = some c.routs.2[j] := by simp [hlt]
   generalize c.routs.2[j] = m at hg
   simp only [code_parts,sl_len,lt_len hlt,hlt,decide_true,zz,Nat.reduceEqDiff]
   refine andG (decide (len m.ranges ≤ 20)) (fun _ J hJ => ?_) ?_
   ·simp only [sl_idx encRout hg,fldE,rout_parts,sl_len,zz,Nat.reduceEqDiff,Nat.reduceAdd]
    exact hJ _ rfl
   rw [vBin_add _ (by omega) (by omega)]
   simp only [zz,Nat.reduceEqDiff]
   exact next _ _ hlt ⟨_,rfl,rfl⟩
  ·obtain rfl : j = c.routs.2.length := by omega
   simp only [code_parts,sl_len,not_lt_len,Nat.lt_irrefl,decide_false,zz,Nat.reduceEqDiff]
   exact ⟨b,trivial,rfl,trivial⟩
 obtain ⟨b,q1,q3,rfl⟩ := hx
 simp only [q1,q3,zz,Nat.reduceEqDiff]
 clear q1 q3 x
 refine CutW_by (fun x τ => ∃ b : Bool,x 1 = pvCode c ∧ x 3 = .bool b ∧ τ = τ') (fun x τ hx => ?_) ?_
 case refine_2 =>
  refine Lfp_up c.texts.2.length (fun j x τ => ∃ b : Bool,x = lookP [(3,.bool b),(6,.int .i64 j),(1,pvCode c)] ∧ τ = τ') ?_ ⟨b,rfl,rfl⟩
  rintro Φ j x τ hj ⟨b,rfl,rfl⟩ next
  by_cases hlt : j < c.texts.2.length
  ·have hg : c.texts.2[j]? = some c.texts.2[j] := by simp [hlt]
   generalize c.texts.2[j] = m at hg
   simp only [code_parts,sl_len,lt_len hlt,hlt,decide_true,zz,Nat.reduceEqDiff]
   refine andG (decide ((m.length : Int) ≤ 100)) (fun _ J hJ => ?_) ?_
   ·simp only [sl_idx encStr hg,encStr.part,zz,Nat.reduceEqDiff,Nat.reduceAdd]
    exact hJ _ rfl
   rw [vBin_add _ (by omega) (by omega)]
   simp only [zz,Nat.reduceEqDiff]
   exact next _ _ hlt ⟨_,rfl,rfl⟩
  ·obtain rfl : j = c.texts.2.length := by omega
   simp only [code_parts,sl_len,not_lt_len,Nat.lt_irrefl,decide_false,zz,Nat.reduceEqDiff]
   exact ⟨b,trivial,rfl,trivial⟩
 obtain ⟨b,q1,q3,rfl⟩ := hx
 simp only [q1,q3,zz,Nat.reduceEqDiff]
 clear q1 q3 x
 refine CutW_by (fun x τ' => ∃ b : Bool,x 3 = .bool b ∧ τ' = τ) (fun x τ' hx => ?_) ?_
 case refine_2 =>
  refine Lfp_up c.trans.2.length (fun j x τ' => ∃ b : Bool,x = lookP [(3,.bool b),(7,.int .i64 j),(1,pvCode c)] ∧ τ' = τ) ?_ ⟨b,rfl,rfl⟩
  rintro Φ j x τ' hj ⟨b,rfl,rfl⟩ next
  by_cases hlt : j < c.trans.2.length
  ·have hg : c.trans.2[j]? = some c.trans.2[j] := by simp [hlt]
   generalize c.trans.2[j] = m at hg
   simp only [code_parts,sl_len,lt_len hlt,hlt,decide_true,zz,Nat.reduceEqDiff]
   refine andG (decide ((m.word.length : Int) ≤ 100)) (fun _ J hJ => ?_) ?_
   ·simp only [sl_idx encTrans hg,fldE,trans_parts,zz,Nat.reduceEqDiff,Nat.reduceAdd]
    exact hJ _ rfl
   rw [vBin_add _ (by omega) (by omega)]
   simp only [zz,Nat.reduceEqDiff]
   exact next _ _ hlt ⟨_,rfl,rfl⟩
  ·obtain rfl : j = c.trans.2.length := by omega
   simp only [code_parts,sl_len,not_lt_len,Nat.lt_irrefl,decide_false,zz,Nat.reduceEqDiff]
   exact ⟨b,rfl,trivial⟩
 obtain ⟨b,q3,rfl⟩ := hx
 simp only [q3,zz,Nat.reduceEqDiff]
 exact weakW_keep (hR _)
end Go.Proofs.YtgghfcchanilpaaGreatDoor

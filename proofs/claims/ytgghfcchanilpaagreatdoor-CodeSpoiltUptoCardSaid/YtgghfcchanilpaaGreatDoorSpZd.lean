import Derived.Test.YtgghfcchanilpaaGreatDoorSpZb
import Derived.Test.YtgghfcchanilpaaGreatDoorSpD
set_option linter.unusedVariables false
set_option linter.unusedSimpArgs false
namespace Go.Proofs.YtgghfcchanilpaaGreatDoor
open Go Go.Abs
def shortB (l : Sl (Sl Int)) : Bool := !(l.2.any fun t => decide (len t > 20)) && decide (len l ≤ 20)
theorem c55 {l : Sl (Sl Int)} (hl : l.2.length ≤ 1048576) (σ : St) : Ret W 55 [pvSl pvInts l] σ (.bool (shortB l)) := by
 refine ret_of fun R hR => ?_
 rw [fn55_eq]
 delta fn55 bF kF nI
 simp only [zz,Nat.reduceEqDiff]
 refine CutW_by (fun x τ => x 0 = pvSl pvInts l ∧ τ = σ ∧ (l.2.any fun t => decide (len t > 20)) = false) (fun x τ hx => ?_) ?_
 ·obtain ⟨h0,rfl,hb⟩ := hx
  unfold shortB at hR
  rw [hb,Bool.not_false,Bool.true_and] at hR
  simp only [h0,sl_len,zz,Nat.reduceEqDiff]
  exact weakW_keep hR
 refine Lfp_any l.2 (fun t => decide (len t > 20)) (fun j => lookP [(0,pvSl pvInts l),(3,.int .i64 j)]) _ rfl (fun hb Φ => ?_) (fun Φ j t hg hmem hj hit next => ?_)
 ·simp only [sl_len,not_lt_len,Nat.lt_irrefl,decide_false,zz,Nat.reduceEqDiff]
  exact ⟨trivial,trivial,hb⟩
 have ht : vLen .sl (pvInts t) σ = some (.int .i64 (len t)) := sl_len _ _ _
 simp only [sl_len,lt_len hj,hj,decide_true,sl_idx encInts hg,encInts.part,ht,zz,Nat.reduceEqDiff]
 refine condB (fun hb => ?_) (fun hb => ?_)
 ·unfold shortB at hR
  rw [hit hb,Bool.not_true,Bool.false_and] at hR
  exact weakW_keep hR
 ·rw [vBin_add _ (by omega) (by omega)]
  simp only [zz,Nat.reduceEqDiff]
  exact next hb
def RetAny (W : CallP) (f : FuncId) (args : List PV) (σ : St) : Prop := ∀ R : Res → St → Prop,(∀ b : Bool,R (.ret (.bool b)) σ) → W f args σ R
theorem RetAny.callB {W : CallP} {f : FuncId} {args : List PV} {σ : St} (h : RetAny W f args σ) {K X : PV → St → Prop} (k : ∀ b : Bool,K (.bool b) σ) : callB W f args σ K X := h _ k
theorem c23 {c : CodeS} (hc : Okay c) (σ : St) : RetAny W 23 [pvCode c] σ := fun R hR => by
 refine callW_fold ?_
 rw [fn23_eq]
 delta fn23 bF pF gF kF nI
 have hm := hc.maps
 have hr := hc.routs
 have ht := hc.texts
 have hx := hc.trans
 simp only [code_parts,sl_len,zz,Nat.reduceEqDiff]
 refine orG (decide (len c.maps > 40)) (fun _ J hJ => hJ _ rfl) ?_
 refine orG (decide (len c.sigs > 20)) (fun _ J hJ => hJ _ rfl) ?_
 refine orG (decide (len c.routs > 5)) (fun _ J hJ => hJ _ rfl) ?_
 refine orG (decide (len c.texts > 20)) (fun _ J hJ => hJ _ rfl) ?_
 refine orG (decide (len c.trans > 20)) (fun _ J hJ => hJ _ rfl) ?_
 refine orG (decide (len c.lines > 200)) (fun _ J hJ => hJ _ rfl) ?_
 refine orG (!shortB c.unions) (fun _ J hJ => ?_) ?_
 ·refine (c55 hc.unions _).callB ?_
  exact hJ _ rfl
 refine orG (!shortB c.jumps) (fun _ J hJ => ?_) ?_
 ·refine (c55 hc.jumps _).callB ?_
  exact hJ _ rfl
 refine orG (!shortB c.parts) (fun _ J hJ => ?_) ?_
 ·refine (c55 hc.parts _).callB ?_
  exact hJ _ rfl
 refine condB (fun hb => ?_) (fun hb => ?_)
 ·exact weakW_keep (hR _)
 clear hb
 refine CutW_by (fun x τ => ∃ b : Bool,x 1 = pvCode c ∧ x 3 = .bool b ∧ τ = σ) (fun x τ hx => ?_) ?_
 case refine_2 =>
  refine Lfp_up c.maps.2.length (fun j x τ => ∃ b : Bool,x = lookP [(3,.bool b),(4,.int .i64 j),(1,pvCode c)] ∧ τ = σ) ?_ ⟨true,rfl,rfl⟩
  rintro Φ j x τ hj ⟨b,rfl,rfl⟩ next
  by_cases hlt : j < c.maps.2.length
  ·have hg : c.maps.2[j]? = some c.maps.2[j] := by simp [hlt]
   generalize c.maps.2[j] = m at hg
   simp only [code_parts,sl_len,lt_len hlt,hlt,decide_true,zz,Nat.reduceEqDiff]
   refine andG (decide (len m ≤ 60)) (fun _ J hJ => ?_) ?_
   ·simp only [sl_idx encMap hg,fldE,map_part,sl_len,zz,Nat.reduceEqDiff,Nat.reduceAdd]
    exact hJ _ rfl
   rw [vBin_add _ (by omega) (by omega)]
   simp only [zz,Nat.reduceEqDiff]
   exact next _ _ hlt ⟨_,rfl,rfl⟩
  ·obtain rfl : j = c.maps.2.length := by omega
   simp only [code_parts,sl_len,not_lt_len,Nat.lt_irrefl,decide_false,zz,Nat.reduceEqDiff]
   exact ⟨b,trivial,rfl,trivial⟩
 obtain ⟨b,q1,q3,rfl⟩ := hx
 simp only [q1,q3,zz,Nat.reduceEqDiff]
 clear q1 q3 x
 refine CutW_by (fun x τ' => ∃ b : Bool,x 1 = pvCode c ∧ x 3 = .bool b ∧ τ' = τ) (fun x τ' hx => ?_) ?_
 case refine_2 =>
  refine Lfp_up c.routs.2.length (fun j x τ' => ∃ b : Bool,x = lookP [(3,.bool b),(5,.int .i64 j),(1,pvCode c)] ∧ τ' = τ) ?_ ⟨b,rfl,rfl⟩
  rintro Φ j x τ' hj ⟨b,rfl,rfl⟩ next
  by_cases hlt : j < c.routs.2.length
  ·have hg : c.routs.2[j]? = some c.routs.2[j] := by simp [hlt]
   generalize c.routs.2[j] = m at hg
   simp only [code_parts,sl_len,lt_len hlt,hlt,decide_true,zz,Nat.reduceEqDiff]
   refine andG (decide (len m.ranges ≤ 20)) (fun _ J hJ => ?_) ?_
   ·simp only [sl_idx encRout hg,fldE,rout_parts,sl_len,zz,Nat.reduceEqDiff,Nat.reduceAdd]
    exact hJ _ rfl
   rw [vBin_add _ (by omega) (by omega)]
   simp only [zz,Nat.reduceEqDiff]
   exact next _ _ hlt ⟨_,rfl,rfl⟩
  ·obtain rfl : j = c.routs.2.length := by omega
   simp only [code_parts,sl_len,not_lt_len,Nat.lt_irrefl,decide_false,zz,Nat.reduceEqDiff]
   exact ⟨b,trivial,rfl,trivial⟩
 obtain ⟨b,q1,q3,rfl⟩ := hx
 simp only [q1,q3,zz,Nat.reduceEqDiff]
 clear q1 q3 x
 refine CutW_by (fun x τ => ∃ b : Bool,x 1 = pvCode c ∧ x 3 = .bool b ∧ τ = τ') (fun x τ hx => ?_) ?_
 case refine_2 =>
  refine Lfp_up c.texts.2.length (fun j x τ => ∃ b : Bool,x = lookP [(3,.bool b),(6,.int .i64 j),(1,pvCode c)] ∧ τ = τ') ?_ ⟨b,rfl,rfl⟩
  rintro Φ j x τ hj ⟨b,rfl,rfl⟩ next
  by_cases hlt : j < c.texts.2.length
  ·have hg : c.texts.2[j]? = some c.texts.2[j] := by simp [hlt]
   generalize c.texts.2[j] = m at hg
   simp only [code_parts,sl_len,lt_len hlt,hlt,decide_true,zz,Nat.reduceEqDiff]
   refine andG (decide ((m.length : Int) ≤ 100)) (fun _ J hJ => ?_) ?_
   ·simp only [sl_idx encStr hg,encStr.part,zz,Nat.reduceEqDiff,Nat.reduceAdd]
    exact hJ _ rfl
   rw [vBin_add _ (by omega) (by omega)]
   simp only [zz,Nat.reduceEqDiff]
   exact next _ _ hlt ⟨_,rfl,rfl⟩
  ·obtain rfl : j = c.texts.2.length := by omega
   simp only [code_parts,sl_len,not_lt_len,Nat.lt_irrefl,decide_false,zz,Nat.reduceEqDiff]
   exact ⟨b,trivial,rfl,trivial⟩
 obtain ⟨b,q1,q3,rfl⟩ := hx
 simp only [q1,q3,zz,Nat.reduceEqDiff]
 clear q1 q3 x
 refine CutW_by (fun x τ' => ∃ b : Bool,x 3 = .bool b ∧ τ' = τ) (fun x τ' hx => ?_) ?_
 case refine_2 =>
  refine Lfp_up c.trans.2.length (fun j x τ' => ∃ b : Bool,x = lookP [(3,.bool b),(7,.int .i64 j),(1,pvCode c)] ∧ τ' = τ) ?_ ⟨b,rfl,rfl⟩
  rintro Φ j x τ' hj ⟨b,rfl,rfl⟩ next
  by_cases hlt : j < c.trans.2.length
  ·have hg : c.trans.2[j]? = some c.trans.2[j] := by simp [hlt]
   generalize c.trans.2[j] = m at hg
   simp only [code_parts,sl_len,lt_len hlt,hlt,decide_true,zz,Nat.reduceEqDiff]
   refine andG (decide ((m.word.length : Int) ≤ 100)) (fun _ J hJ => ?_) ?_
   ·simp only [sl_idx encTrans hg,fldE,trans_parts,zz,Nat.reduceEqDiff,Nat.reduceAdd]
    exact hJ _ rfl
   rw [vBin_add _ (by omega) (by omega)]
   simp only [zz,Nat.reduceEqDiff]
   exact next _ _ hlt ⟨_,rfl,rfl⟩
  ·obtain rfl : j = c.trans.2.length := by omega
   simp only [code_parts,sl_len,not_lt_len,Nat.lt_irrefl,decide_false,zz,Nat.reduceEqDiff]
   exact ⟨b,rfl,trivial⟩
 obtain ⟨b,q3,rfl⟩ := hx
 simp only [q3,zz,Nat.reduceEqDiff]
 exact weakW_keep (hR _)
end Go.Proofs.YtgghfcchanilpaaGreatDoor

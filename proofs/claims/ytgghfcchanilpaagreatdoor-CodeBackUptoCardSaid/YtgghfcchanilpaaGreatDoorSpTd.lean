import Derived.Test.YtgghfcchanilpaaGreatDoorSpTa
import Derived.Test.YtgghfcchanilpaaGreatDoorSpNb
import Derived.Test.YtgghfcchanilpaaGreatDoorSpWd
set_option linter.unusedVariables false
set_option linter.unusedSimpArgs false
namespace Go.Proofs.YtgghfcchanilpaaGreatDoor
open Go Go.Abs
theorem inst_eq2 (a : InstS) : vBin (some (.st [.int,.int,.int,.int,.int,.int,.int,.int,.int,.int,.int,.int])) .eql (pvInst a) (pvInst a) = some (.bool true) := by
 simp [vBin,vEq,vEqL,vEqS,pvInst]
theorem trans_eq2 (a : TransS) : vBin (some (.st [.str,.bool,.int])) .eql (pvTrans a) (pvTrans a) = some (.bool true) := by
 simp [vBin,vEq,vEqL,vEqS,pvTrans]
theorem str_eq2 (a : Str) : vBin none .eql (.str a) (.str a) = some (.bool true) := by
 simp [vBin,vStrOp]
set_option maxRecDepth 100000 in
theorem c34 {a b : CodeS} (hL : codeL a = codeL b) (hc : Okay a) (σ : St) : Ret W 34 [pvCode a,pvCode b] σ (.bool true) := by
 refine ret_of fun R hR => ?_
 rw [fn34_eq]
 delta fn34 bF pF gF kF nI
 have h0 : a.maps.2.map (·.2) = b.maps.2.map (·.2) := congrArg CodeL.maps hL
 have h1 : a.unions.2.map (·.2) = b.unions.2.map (·.2) := congrArg CodeL.unions hL
 have h2 : a.sigs.2 = b.sigs.2 := congrArg CodeL.sigs hL
 have h3 : a.routs.2.map routL = b.routs.2.map routL := congrArg CodeL.routs hL
 have h4 : a.insts.2 = b.insts.2 := congrArg CodeL.insts hL
 have h5 : a.jumps.2.map (·.2) = b.jumps.2.map (·.2) := congrArg CodeL.jumps hL
 have h6 : a.parts.2.map (·.2) = b.parts.2.map (·.2) := congrArg CodeL.parts hL
 have h7 : a.texts.2 = b.texts.2 := congrArg CodeL.texts hL
 have h8 : a.trans.2 = b.trans.2 := congrArg CodeL.trans hL
 have h9 : a.lines.2 = b.lines.2 := congrArg CodeL.lines hL
 have n2 : len b.sigs = len a.sigs := by unfold len; rw [h2]
 have n4 : len b.insts = len a.insts := by unfold len; rw [h4]
 have n7 : len b.texts = len a.texts := by unfold len; rw [h7]
 have n8 : len b.trans = len a.trans := by unfold len; rw [h8]
 have n9 : len b.lines = len a.lines := by unfold len; rw [h9]
 clear hL
 simp only [code_parts,zz,Nat.reduceEqDiff]
 refine (c86 h0 hc.maps hc.slots _).callB ?_
 simp only [code_parts,zz,Nat.reduceEqDiff]
 refine (c87 h1 hc.unions hc.union _).callB ?_
 simp only [code_parts,zz,Nat.reduceEqDiff]
 refine (c88 h3 hc.routs hc.ranges _).callB ?_
 simp only [code_parts,zz,Nat.reduceEqDiff]
 refine (c87 h5 hc.jumps hc.jump _).callB ?_
 simp only [code_parts,zz,Nat.reduceEqDiff]
 refine (c87 h6 hc.parts hc.part _).callB ?_
 simp only [code_parts,sl_len,n2,n4,n7,n8,n9,neq_self,bne_self_eq_false,zz,Nat.reduceEqDiff]
 refine CutW_by (fun x τ => x 5 = .bool true ∧ x 2 = pvCode a ∧ x 3 = pvCode b ∧ τ = σ) (fun x τ hx => ?_) ?_
 rotate_left
 ·have hl := hc.sigs
  refine Lfp_up a.sigs.2.length (fun j x τ => x = lookP [(5,.bool true),(6,.int .i64 j),(2,pvCode a),(3,pvCode b)] ∧ τ = σ) ?_ ⟨rfl,rfl⟩
  rintro Φ j x τ hj ⟨rfl,rfl⟩ next
  by_cases hlt : j < a.sigs.2.length
  ·have hg : a.sigs.2[j]? = some a.sigs.2[j] := by simp [hlt]
   have hg2 : b.sigs.2[j]? = some a.sigs.2[j] := by rw [← h2]; exact hg
   generalize a.sigs.2[j] = s at hg hg2
   simp only [code_parts,sl_len,lt_len hlt,sl_idx encSig hg,sl_idx encSig hg2,encSig.part,sig_eq,beq_self_eq_true,zz,Nat.reduceEqDiff]
   rw [vBin_add _ (by omega) (by omega)]
   simp only [zz,Nat.reduceEqDiff]
   exact next _ _ hlt ⟨rfl,rfl⟩
  ·obtain rfl : j = a.sigs.2.length := by omega
   simp only [code_parts,sl_len,not_lt_len,zz,Nat.reduceEqDiff]
   exact ⟨trivial,trivial,trivial,trivial⟩
 obtain ⟨q5,q2,q3,hτ⟩ := hx
 rw [hτ]
 simp only [q5,q2,q3,zz,Nat.reduceEqDiff]
 refine CutW_by (fun x τ => x 5 = .bool true ∧ x 2 = pvCode a ∧ x 3 = pvCode b ∧ τ = σ) (fun x τ hx => ?_) ?_
 rotate_left
 ·have hl := hc.insts
  refine Lfp_up a.insts.2.length (fun j x τ => x = lookP [(5,.bool true),(7,.int .i64 j),(2,pvCode a),(3,pvCode b)] ∧ τ = σ) ?_ ⟨rfl,rfl⟩
  rintro Φ j x τ hj ⟨rfl,rfl⟩ next
  by_cases hlt : j < a.insts.2.length
  ·have hg : a.insts.2[j]? = some a.insts.2[j] := by simp [hlt]
   have hg2 : b.insts.2[j]? = some a.insts.2[j] := by rw [← h4]; exact hg
   generalize a.insts.2[j] = s at hg hg2
   simp only [code_parts,sl_len,lt_len hlt,sl_idx encInst hg,sl_idx encInst hg2,encInst.part,inst_eq2,beq_self_eq_true,zz,Nat.reduceEqDiff]
   rw [vBin_add _ (by omega) (by omega)]
   simp only [zz,Nat.reduceEqDiff]
   exact next _ _ hlt ⟨rfl,rfl⟩
  ·obtain rfl : j = a.insts.2.length := by omega
   simp only [code_parts,sl_len,not_lt_len,zz,Nat.reduceEqDiff]
   exact ⟨trivial,trivial,trivial,trivial⟩
 obtain ⟨q5,q2,q3,hτ⟩ := hx
 rw [hτ]
 simp only [q5,q2,q3,zz,Nat.reduceEqDiff]
 refine CutW_by (fun x τ => x 5 = .bool true ∧ x 2 = pvCode a ∧ x 3 = pvCode b ∧ τ = σ) (fun x τ hx => ?_) ?_
 rotate_left
 ·have hl := hc.texts
  refine Lfp_up a.texts.2.length (fun j x τ => x = lookP [(5,.bool true),(8,.int .i64 j),(2,pvCode a),(3,pvCode b)] ∧ τ = σ) ?_ ⟨rfl,rfl⟩
  rintro Φ j x τ hj ⟨rfl,rfl⟩ next
  by_cases hlt : j < a.texts.2.length
  ·have hg : a.texts.2[j]? = some a.texts.2[j] := by simp [hlt]
   have hg2 : b.texts.2[j]? = some a.texts.2[j] := by rw [← h7]; exact hg
   generalize a.texts.2[j] = s at hg hg2
   simp only [code_parts,sl_len,lt_len hlt,sl_idx encStr hg,sl_idx encStr hg2,encStr.part,str_eq2,beq_self_eq_true,zz,Nat.reduceEqDiff]
   rw [vBin_add _ (by omega) (by omega)]
   simp only [zz,Nat.reduceEqDiff]
   exact next _ _ hlt ⟨rfl,rfl⟩
  ·obtain rfl : j = a.texts.2.length := by omega
   simp only [code_parts,sl_len,not_lt_len,zz,Nat.reduceEqDiff]
   exact ⟨trivial,trivial,trivial,trivial⟩
 obtain ⟨q5,q2,q3,hτ⟩ := hx
 rw [hτ]
 simp only [q5,q2,q3,zz,Nat.reduceEqDiff]
 refine CutW_by (fun x τ => x 5 = .bool true ∧ x 2 = pvCode a ∧ x 3 = pvCode b ∧ τ = σ) (fun x τ hx => ?_) ?_
 rotate_left
 ·have hl := hc.trans
  refine Lfp_up a.trans.2.length (fun j x τ => x = lookP [(5,.bool true),(9,.int .i64 j),(2,pvCode a),(3,pvCode b)] ∧ τ = σ) ?_ ⟨rfl,rfl⟩
  rintro Φ j x τ hj ⟨rfl,rfl⟩ next
  by_cases hlt : j < a.trans.2.length
  ·have hg : a.trans.2[j]? = some a.trans.2[j] := by simp [hlt]
   have hg2 : b.trans.2[j]? = some a.trans.2[j] := by rw [← h8]; exact hg
   generalize a.trans.2[j] = s at hg hg2
   simp only [code_parts,sl_len,lt_len hlt,sl_idx encTrans hg,sl_idx encTrans hg2,encTrans.part,trans_eq2,beq_self_eq_true,zz,Nat.reduceEqDiff]
   rw [vBin_add _ (by omega) (by omega)]
   simp only [zz,Nat.reduceEqDiff]
   exact next _ _ hlt ⟨rfl,rfl⟩
  ·obtain rfl : j = a.trans.2.length := by omega
   simp only [code_parts,sl_len,not_lt_len,zz,Nat.reduceEqDiff]
   exact ⟨trivial,trivial,trivial,trivial⟩
 obtain ⟨q5,q2,q3,hτ⟩ := hx
 rw [hτ]
 simp only [q5,q2,q3,zz,Nat.reduceEqDiff]
 refine CutW_by (fun x τ => x 5 = .bool true ∧ τ = σ) (fun x τ hx => ?_) ?_
 rotate_left
 ·have hl := hc.lines
  refine Lfp_up a.lines.2.length (fun j x τ => x = lookP [(5,.bool true),(10,.int .i64 j),(2,pvCode a),(3,pvCode b)] ∧ τ = σ) ?_ ⟨rfl,rfl⟩
  rintro Φ j x τ hj ⟨rfl,rfl⟩ next
  by_cases hlt : j < a.lines.2.length
  ·have hg : a.lines.2[j]? = some a.lines.2[j] := by simp [hlt]
   have hg2 : b.lines.2[j]? = some a.lines.2[j] := by rw [← h9]; exact hg
   generalize a.lines.2[j] = s at hg hg2
   simp only [code_parts,sl_len,lt_len hlt,sl_idx encSig hg,sl_idx encSig hg2,encSig.part,sig_eq,beq_self_eq_true,zz,Nat.reduceEqDiff]
   rw [vBin_add _ (by omega) (by omega)]
   simp only [zz,Nat.reduceEqDiff]
   exact next _ _ hlt ⟨rfl,rfl⟩
  ·obtain rfl : j = a.lines.2.length := by omega
   simp only [code_parts,sl_len,not_lt_len,zz,Nat.reduceEqDiff]
   exact ⟨trivial,trivial⟩
 obtain ⟨q5,rfl⟩ := hx
 rw [q5]
 exact weakW_keep hR
end Go.Proofs.YtgghfcchanilpaaGreatDoor
namespace Go.Proofs.YtgghfcchanilpaaGreatDoor
open Go Go.Abs
def bigB (c : CodeS) : Bool := decide (len c.insts > 200) || decide (len c.maps > 40) || decide (len c.sigs > 20) || decide (len c.routs > 5) || decide (len c.texts > 20) || decide (len c.trans > 20) || decide (len c.lines > 200) || !shortB c.unions || !shortB c.jumps || !shortB c.parts
def fewM (m : Sl SlotS) : Bool := decide (len m ≤ 60)
def fewR (r : RoutS) : Bool := decide (len r.ranges ≤ 20)
def fewT (s : Str) : Bool := decide ((s.length : Int) ≤ 100)
def fewX (t : TransS) : Bool := decide ((t.word.length : Int) ≤ 100)
def fewB (c : CodeS) : Bool := !bigB c && (((c.maps.2.all fewM && c.routs.2.all fewR) && c.texts.2.all fewT) && c.trans.2.all fewX)
theorem all_step {α : Type} {q : α → Bool} {l : List α} {j : Nat} {a : α} (h : l[j]? = some a) : (l.take (j + 1)).all q = ((l.take j).all q && q a) := by
 rw [List.take_add_one,h,List.all_append]
 simp
theorem c23x {c : CodeS} (hc : Okay c) (σ : St) : Ret W 23 [pvCode c] σ (.bool (fewB c)) := by
 refine ret_of fun R hR => ?_
 rw [fn23_eq]
 delta fn23 bF pF gF kF nI
 have hm := hc.maps
 have hr := hc.routs
 have ht := hc.texts
 have hx := hc.trans
 simp only [code_parts,sl_len,zz,Nat.reduceEqDiff]
 refine orG (decide (len c.maps > 40)) (fun _ J hJ => hJ _ rfl) ?_
 refine orG (decide (len c.sigs > 20)) (fun _ J hJ => hJ _ rfl) ?_
 refine orG (decide (len c.routs > 5)) (fun _ J hJ => hJ _ rfl) ?_
 refine orG (decide (len c.texts > 20)) (fun _ J hJ => hJ _ rfl) ?_
 refine orG (decide (len c.trans > 20)) (fun _ J hJ => hJ _ rfl) ?_
 refine orG (decide (len c.lines > 200)) (fun _ J hJ => hJ _ rfl) ?_
 refine orG (!shortB c.unions) (fun _ J hJ => ?_) ?_
 ·refine (c55 hc.unions _).callB ?_
  exact hJ _ rfl
 refine orG (!shortB c.jumps) (fun _ J hJ => ?_) ?_
 ·refine (c55 hc.jumps _).callB ?_
  exact hJ _ rfl
 refine orG (!shortB c.parts) (fun _ J hJ => ?_) ?_
 ·refine (c55 hc.parts _).callB ?_
  exact hJ _ rfl
 refine condB (fun hb => ?_) (fun hb => ?_)
 ·have hB : bigB c = true := hb
  unfold fewB at hR
  rw [hB] at hR
  exact weakW_keep hR
 have hB : bigB c = false := hb
 unfold fewB at hR
 rw [hB] at hR
 simp only [Bool.not_false,Bool.true_and] at hR
 clear hb
 refine CutW_by (fun x τ => x 1 = pvCode c ∧ x 3 = .bool (c.maps.2.all fewM) ∧ τ = σ) (fun x τ hx => ?_) ?_
 case refine_2 =>
  refine Lfp_up c.maps.2.length (fun j x τ => x = lookP [(3,.bool ((c.maps.2.take j).all fewM)),(4,.int .i64 j),(1,pvCode c)] ∧ τ = σ) ?_ ⟨by simp,rfl⟩
  rintro Φ j x τ hj ⟨rfl,rfl⟩ next
  by_cases hlt : j < c.maps.2.length
  ·have hg : c.maps.2[j]? = some c.maps.2[j] := by simp [hlt]
   generalize c.maps.2[j] = m at hg
   have hstep := all_step (q := fewM) hg
   simp only [code_parts,sl_len,lt_len hlt,hlt,decide_true,zz,Nat.reduceEqDiff]
   refine andG (decide (len m ≤ 60)) (fun _ J hJ => ?_) ?_
   ·simp only [sl_idx encMap hg,fldE,map_part,sl_len,zz,Nat.reduceEqDiff,Nat.reduceAdd]
    exact hJ _ rfl
   rw [vBin_add _ (by omega) (by omega)]
   simp only [zz,Nat.reduceEqDiff]
   refine next _ _ hlt ⟨?_,rfl⟩
   rw [hstep]
   rfl
  ·obtain rfl : j = c.maps.2.length := by omega
   simp only [code_parts,sl_len,not_lt_len,Nat.lt_irrefl,decide_false,List.take_length,zz,Nat.reduceEqDiff]
   exact ⟨trivial,trivial,trivial⟩
 obtain ⟨q1,q3,hτ⟩ := hx
 rw [hτ]
 simp only [q1,q3,zz,Nat.reduceEqDiff]
 clear q1 q3 hτ x τ
 refine CutW_by (fun x τ => x 1 = pvCode c ∧ x 3 = .bool ((c.maps.2.all fewM && c.routs.2.all fewR)) ∧ τ = σ) (fun x τ hx => ?_) ?_
 case refine_2 =>
  refine Lfp_up c.routs.2.length (fun j x τ => x = lookP [(3,.bool (c.maps.2.all fewM && (c.routs.2.take j).all fewR)),(5,.int .i64 j),(1,pvCode c)] ∧ τ = σ) ?_ ⟨by simp,rfl⟩
  rintro Φ j x τ hj ⟨rfl,rfl⟩ next
  by_cases hlt : j < c.routs.2.length
  ·have hg : c.routs.2[j]? = some c.routs.2[j] := by simp [hlt]
   generalize c.routs.2[j] = m at hg
   have hstep := all_step (q := fewR) hg
   simp only [code_parts,sl_len,lt_len hlt,hlt,decide_true,zz,Nat.reduceEqDiff]
   refine andG (decide (len m.ranges ≤ 20)) (fun _ J hJ => ?_) ?_
   ·simp only [sl_idx encRout hg,fldE,rout_parts,sl_len,zz,Nat.reduceEqDiff,Nat.reduceAdd]
    exact hJ _ rfl
   rw [vBin_add _ (by omega) (by omega)]
   simp only [zz,Nat.reduceEqDiff]
   refine next _ _ hlt ⟨?_,rfl⟩
   rw [hstep,← Bool.and_assoc]
   rfl
  ·obtain rfl : j = c.routs.2.length := by omega
   simp only [code_parts,sl_len,not_lt_len,Nat.lt_irrefl,decide_false,List.take_length,zz,Nat.reduceEqDiff]
   exact ⟨trivial,trivial,trivial⟩
 obtain ⟨q1,q3,hτ⟩ := hx
 rw [hτ]
 simp only [q1,q3,zz,Nat.reduceEqDiff]
 clear q1 q3 hτ x τ
 refine CutW_by (fun x τ => x 1 = pvCode c ∧ x 3 = .bool (((c.maps.2.all fewM && c.routs.2.all fewR) && c.texts.2.all fewT)) ∧ τ = σ) (fun x τ hx => ?_) ?_
 case refine_2 =>
  refine Lfp_up c.texts.2.length (fun j x τ => x = lookP [(3,.bool ((c.maps.2.all fewM && c.routs.2.all fewR) && (c.texts.2.take j).all fewT)),(6,.int .i64 j),(1,pvCode c)] ∧ τ = σ) ?_ ⟨by simp,rfl⟩
  rintro Φ j x τ hj ⟨rfl,rfl⟩ next
  by_cases hlt : j < c.texts.2.length
  ·have hg : c.texts.2[j]? = some c.texts.2[j] := by simp [hlt]
   generalize c.texts.2[j] = m at hg
   have hstep := all_step (q := fewT) hg
   simp only [code_parts,sl_len,lt_len hlt,hlt,decide_true,zz,Nat.reduceEqDiff]
   refine andG (decide ((m.length : Int) ≤ 100)) (fun _ J hJ => ?_) ?_
   ·simp only [sl_idx encStr hg,encStr.part,zz,Nat.reduceEqDiff,Nat.reduceAdd]
    exact hJ _ rfl
   rw [vBin_add _ (by omega) (by omega)]
   simp only [zz,Nat.reduceEqDiff]
   refine next _ _ hlt ⟨?_,rfl⟩
   rw [hstep,← Bool.and_assoc]
   rfl
  ·obtain rfl : j = c.texts.2.length := by omega
   simp only [code_parts,sl_len,not_lt_len,Nat.lt_irrefl,decide_false,List.take_length,zz,Nat.reduceEqDiff]
   exact ⟨trivial,trivial,trivial⟩
 obtain ⟨q1,q3,hτ⟩ := hx
 rw [hτ]
 simp only [q1,q3,zz,Nat.reduceEqDiff]
 clear q1 q3 hτ x τ
 refine CutW_by (fun x τ => x 3 = .bool ((((c.maps.2.all fewM && c.routs.2.all fewR) && c.texts.2.all fewT) && c.trans.2.all fewX)) ∧ τ = σ) (fun x τ hx => ?_) ?_
 case refine_2 =>
  refine Lfp_up c.trans.2.length (fun j x τ => x = lookP [(3,.bool (((c.maps.2.all fewM && c.routs.2.all fewR) && c.texts.2.all fewT) && (c.trans.2.take j).all fewX)),(7,.int .i64 j),(1,pvCode c)] ∧ τ = σ) ?_ ⟨by simp,rfl⟩
  rintro Φ j x τ hj ⟨rfl,rfl⟩ next
  by_cases hlt : j < c.trans.2.length
  ·have hg : c.trans.2[j]? = some c.trans.2[j] := by simp [hlt]
   generalize c.trans.2[j] = m at hg
   have hstep := all_step (q := fewX) hg
   simp only [code_parts,sl_len,lt_len hlt,hlt,decide_true,zz,Nat.reduceEqDiff]
   refine andG (decide ((m.word.length : Int) ≤ 100)) (fun _ J hJ => ?_) ?_
   ·simp only [sl_idx encTrans hg,fldE,trans_parts,zz,Nat.reduceEqDiff,Nat.reduceAdd]
    exact hJ _ rfl
   rw [vBin_add _ (by omega) (by omega)]
   simp only [zz,Nat.reduceEqDiff]
   refine next _ _ hlt ⟨?_,rfl⟩
   rw [hstep,← Bool.and_assoc]
   rfl
  ·obtain rfl : j = c.trans.2.length := by omega
   simp only [code_parts,sl_len,not_lt_len,Nat.lt_irrefl,decide_false,List.take_length,zz,Nat.reduceEqDiff]
   exact ⟨trivial,trivial⟩
 obtain ⟨q3,hτ⟩ := hx
 rw [hτ]
 simp only [q3,zz,Nat.reduceEqDiff]
 exact weakW_keep hR
end Go.Proofs.YtgghfcchanilpaaGreatDoor
namespace Go.Proofs.YtgghfcchanilpaaGreatDoor
open Go Go.Abs
theorem short_of {l : Sl (Sl Int)} (h : shortB l = true) : l.2.length ≤ 20 ∧ ∀ m ∈ l.2,m.2.length ≤ 20 := by
 unfold shortB at h
 rw [Bool.and_eq_true,Bool.not_eq_true',List.any_eq_false,decide_eq_true_eq] at h
 refine ⟨by have := h.2; unfold len at this; omega,fun m hm => ?_⟩
 have := h.1 m hm
 rw [decide_eq_true_eq] at this
 unfold len at this
 omega
structure FewP (c : CodeS) : Prop where
 insts : c.insts.2.length ≤ 200
 maps : c.maps.2.length ≤ 40
 slots : ∀ m ∈ c.maps.2,m.2.length ≤ 60
 sigs : c.sigs.2.length ≤ 20
 routs : c.routs.2.length ≤ 5
 ranges : ∀ r ∈ c.routs.2,r.ranges.2.length ≤ 20
 texts : c.texts.2.length ≤ 20
 text : ∀ s ∈ c.texts.2,s.length ≤ 100
 trans : c.trans.2.length ≤ 20
 word : ∀ t ∈ c.trans.2,t.word.length ≤ 100
 lines : c.lines.2.length ≤ 200
 unions : shortB c.unions = true
 jumps : shortB c.jumps = true
 parts : shortB c.parts = true
theorem few_of {c : CodeS} (h : fewB c = true) : FewP c := by
 unfold fewB bigB at h
 simp only [Bool.and_eq_true,Bool.not_eq_true',Bool.or_eq_false_iff,decide_eq_false_iff_not,Bool.not_eq_false',List.all_eq_true] at h
 obtain ⟨⟨⟨⟨⟨⟨⟨⟨⟨⟨h1,h2⟩,h3⟩,h4⟩,h5⟩,h6⟩,h7⟩,h8⟩,h9⟩,h10⟩,⟨⟨h11,h12⟩,h13⟩,h14⟩ := h
 unfold len at h1 h2 h3 h4 h5 h6 h7
 refine ⟨by omega,by omega,fun m hm => ?_,by omega,by omega,fun r hr => ?_,by omega,fun s hs => ?_,by omega,fun t ht => ?_,by omega,h8,h9,h10⟩
 ·have := h11 m hm
  unfold fewM at this
  rw [decide_eq_true_eq] at this
  unfold len at this
  omega
 ·have := h12 r hr
  unfold fewR at this
  rw [decide_eq_true_eq] at this
  unfold len at this
  omega
 ·have := h13 s hs
  unfold fewT at this
  rw [decide_eq_true_eq] at this
  omega
 ·have := h14 t ht
  unfold fewX at this
  rw [decide_eq_true_eq] at this
  omega
theorem few_len {c : CodeS} (h : fewB c = true) : (wholeB c).length ≤ 1048576 := by
 have hf := few_of h
 have nb := fun n => (numB_len n).2
 have ints : ∀ l : List Int,l.length ≤ 20 → (intsW l).length ≤ 210 := fun l hl => listB_le (B := 10) hl fun n _ => nb n
 have lists : ∀ p : Sl (Sl Int),shortB p = true → (listB intsW (p.2.map (fun m : Sl Int => m.2))).length ≤ 4210 := fun p h1 => by
  rw [← listB_map intsW (fun m : Sl Int => m.2) p.2]
  obtain ⟨a,b⟩ := short_of h1
  exact listB_le (n := 20) (B := 210) a fun m hm => ints _ (b m hm)
 have bb : ∀ b : Bool,(boolB b).length ≤ 10 := fun b => by unfold boolB; split <;> exact nb _
 have sg : ∀ p : Int × Int,(sigW p).length ≤ 20 := fun p => by
  have := nb p.1; have := nb p.2
  unfold sigW
  rw [List.length_append]
  omega
 have e1 : (listB mapW (c.maps.2.map (fun m : Sl SlotS => m.2))).length ≤ 120410 := by
  rw [← listB_map mapW (fun m : Sl SlotS => m.2) c.maps.2]
  refine listB_le (n := 40) (B := 3010) hf.maps fun m hm => ?_
  refine listB_le (n := 60) (B := 50) (hf.slots m hm) fun s _ => ?_
  have := nb s.kind; have := nb s.size; have := nb s.map; have := nb s.dims; have := bb s.flex
  simp only [slotW,List.length_append]
  omega
 have e2 := lists c.unions hf.unions
 have e3 : (listB sigW c.sigs.2).length ≤ 410 := listB_le (n := 20) (B := 20) hf.sigs fun p _ => sg p
 have e4 : (listB routW (c.routs.2.map routL)).length ≤ 3460 := by
  rw [← listB_map routW routL c.routs.2]
  refine listB_le (n := 5) (B := 690) hf.routs fun r hr => ?_
  have hrg : (listB rangeW r.ranges.2).length ≤ 610 := listB_le (n := 20) (B := 30) (hf.ranges r hr) fun g _ => by
   have := nb g.outer; have := nb g.fr; have := nb g.to
   simp only [rangeW,List.length_append]
   omega
  have := nb r.sig; have := nb r.frame; have := nb r.fr; have := nb r.to; have := nb r.outer; have := nb r.within; have := nb r.level; have := nb r.needs
  simp only [routW,routL,List.length_append]
  omega
 have e5 : (listB instW c.insts.2).length ≤ 24010 := listB_le (n := 200) (B := 120) hf.insts fun i _ => by
  have ow : ∀ o : OperS,(operW o).length ≤ 30 := fun o => by
   have := nb o.k; have := nb o.a; have := nb o.b
   simp only [operW,List.length_append]
   omega
  have := nb i.op; have := ow i.s; have := ow i.t; have := ow i.d; have := nb i.n; have := nb i.k
  simp only [instW,List.length_append]
  omega
 have e6 := lists c.jumps hf.jumps
 have e7 := lists c.parts hf.parts
 have tx : ∀ s : Str,s.length ≤ 100 → (textB s).length ≤ 110 := fun s hs => by
  have := nb s.length
  simp only [textB,List.length_append]
  omega
 have e8 : (listB textB c.texts.2).length ≤ 2210 := listB_le (n := 20) (B := 110) hf.texts fun s hs => tx s (hf.text s hs)
 have e9 : (listB transW c.trans.2).length ≤ 2610 := listB_le (n := 20) (B := 130) hf.trans fun t ht => by
  have := tx t.word (hf.word t ht); have := bb t.file; have := nb t.map
  simp only [transW,List.length_append]
  omega
 have e10 : (listB sigW c.lines.2).length ≤ 4010 := listB_le (n := 200) (B := 20) hf.lines fun p _ => sg p
 have h4 : (fourB (sumS (bodyB c))).length = 4 := rfl
 have hm : markB.length = 4 := rfl
 unfold wholeB
 rw [List.length_append,h4]
 unfold bodyB
 rw [List.length_append,hm]
 simp only [codeW,codeL,List.length_append]
 omega
end Go.Proofs.YtgghfcchanilpaaGreatDoor

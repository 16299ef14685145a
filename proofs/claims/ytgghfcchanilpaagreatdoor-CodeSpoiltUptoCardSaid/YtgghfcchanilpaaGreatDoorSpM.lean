import Derived.Test.YtgghfcchanilpaaGreatDoorSpL
import Derived.Test.YtgghfcchanilpaaGreatDoorPlJ
set_option linter.unusedVariables false
set_option linter.unusedSimpArgs false
namespace Go.Proofs.YtgghfcchanilpaaGreatDoor
open Go Go.Abs
theorem c276_zero (σ : St) : Ret W 276 [.list .nil [],.int .i64 0] σ (.list .nil []) := by
 refine ret_of fun R hR => ?_
 rw [fn276_eq]
 delta fn276 bF nI
 have e1 : vCap (.list .nil []) = some (.int .i64 0) := rfl
 have e2 : ∀ σ : St,vLen .sl (.list .nil []) σ = some (.int .i64 0) := fun _ => rfl
 have e3 : vBin none .sub (.int .i64 0) (.int .i64 0) = some (.int .i64 0) := rfl
 have e4 : decide ((0 : Int) > 0) = false := rfl
 have e5 : decide ((0 : Int) < 0) = false := rfl
 simp only [e1,e2,e3,e4,e5,zz,Nat.reduceEqDiff]
 exact weakW_keep hR
def z5 : PV := .agg [(.int .i64 0),(.int .i64 0),(.int .i64 0),(.int .i64 0),(.bool false)]
theorem c276 {n : Nat} (h0 : 0 < n) (h : n ≤ 4194304) (σ : St) (R : Res → St → Prop) (hR : R (.ret (.sref σ.length 0 5 0 0)) (σ ++ [.arr 0 5 (List.replicate n z5)])) : W 276 [.list .nil [],.int .i64 n] σ R := by
 refine callW_fold ?_
 rw [fn276_eq]
 delta fn276 bF nI
 have e1 : vCap (.list .nil []) = some (.int .i64 0) := rfl
 have e2 : ∀ σ : St,vLen .sl (.list .nil []) σ = some (.int .i64 0) := fun _ => rfl
 have e3 : vBin none .sub (.int .i64 0) (.int .i64 0) = some (.int .i64 0) := rfl
 have e4 : decide ((n : Int) > 0) = true := decide_eq_true (by omega)
 have e5 : decide ((n : Int) < 0) = false := decide_eq_false (by omega)
 have e6 : vBin none .sub (.int .i64 n) (.int .i64 0) = some (.int .i64 n) := by
  rw [vBin_sub _ (by omega) (by omega)]
  simp
 have e7 : vSubSl 5 (.list .nil []) none (some (.int .i64 0)) = some (.list .nil []) := by kernel_rfl
 have e8 : vAppendMk 5 40 z5 (.list .nil []) (.int .i64 n) σ = some (.sref σ.length 0 5 0 n,σ ++ [.arr 0 5 (List.replicate n z5)]) := by
  have hn : (0 : Int) < (n : Int) := by omega
  have hr : roomy n 40 = true := by simp [roomy]; omega
  simp only [vAppendMk,hn,Int.toNat_natCast,hr,true_and,and_self,if_true]
 have e9 : vSubSl 5 (.sref σ.length 0 5 0 n) none (some (.int .i64 0)) = some (.sref σ.length 0 5 0 0) := by
  simp [vSubSl,bound,h0]
 unfold z5 at e8 hR
 simp only [e1,e2,e3,e4,e5,e6,e7,e8,e9,zz,Nat.reduceEqDiff]
 exact weakW_keep hR
def catD (q : List (Sl SlotS)) : List SlotS := q.flatMap (·.2)
theorem catD_succ {q : List (Sl SlotS)} {j : Nat} {a : Sl SlotS} (h : q[j]? = some a) : catD (q.take (j + 1)) = catD (q.take j) ++ a.2 := by
 rw [List.take_add_one,h]
 simp [catD,List.flatMap_append]
theorem catD_len {M : Nat} {q : List (Sl SlotS)} (h : ∀ a ∈ q,a.2.length ≤ M) : ∀ j,(catD (q.take j)).length ≤ j * M
 | 0 => by simp [catD]
 | j + 1 => by
  have ih := catD_len h j
  rw [Nat.succ_mul]
  cases hq : q[j]? with
  | none =>
   rw [List.take_add_one,hq]
   simp only [Option.toList_none,List.append_nil]
   exact Nat.le_trans ih (Nat.le_add_right _ _)
  | some a =>
   rw [catD_succ hq,List.length_append]
   exact Nat.add_le_add ih (h a (List.mem_of_getElem? hq))
theorem catD_le {q : List (Sl SlotS)} {j : Nat} {a : Sl SlotS} (h : q[j]? = some a) : (catD (q.take j)).length + a.2.length ≤ (catD q).length := by
 have h1 : q = q.take (j + 1) ++ q.drop (j + 1) := (List.take_append_drop _ _).symm
 have h2 : catD q = catD (q.take (j + 1)) ++ catD (q.drop (j + 1)) := by
  unfold catD
  rw [← List.flatMap_append,← h1]
 rw [h2,catD_succ h]
 simp only [List.length_append]
 omega
theorem under_slot (n : Nat) (s : SlotS) : Under n (pvSlot s) := by
 refine .agg _ fun i x hx => ?_
 match i with
 | 0 => simp at hx; subst hx; exact .int _ _
 | 1 => simp at hx; subst hx; exact .int _ _
 | 2 => simp at hx; subst hx; exact .int _ _
 | 3 => simp at hx; subst hx; exact .int _ _
 | 4 => simp at hx; subst hx; exact .bool _
 | i + 5 => simp at hx
theorem encSlots : EncOk (pvSl pvSlot) false 1 := ⟨fun _ => ⟨_,rfl,rfl⟩,fun _ => rfl⟩
theorem c225 {q : List (Sl SlotS)} (hq : q.length ≤ 3) (hl : ∀ a ∈ q,a.2.length ≤ 1048576) (σ : St) : Ret W 225 [.list .full (q.map (pvSl pvSlot))] σ (growV ((catD q).map pvSlot)) := by
 refine ret_of fun R hR => ?_
 rw [fn225_eq]
 delta fn225 bF kF nI nL
 have hb := catD_len hl
 have hbq : (catD q).length ≤ 3145728 := by
  have := hb q.length
  rw [List.take_length] at this
  omega
 simp only [List.length_map,zz,Nat.reduceEqDiff]
 refine Lfp_up q.length (fun j x τ => x = lookP [(0,.list .full (q.map (pvSl pvSlot))),(3,.int .i64 (catD (q.take j)).length),(9,.list .full (q.map (pvSl pvSlot))),(10,.int .i64 q.length),(11,.int .i64 j)] ∧ τ = σ) ?_ ⟨rfl,rfl⟩
 rintro Φ j x τ hj ⟨rfl,rfl⟩ next
 by_cases hlt : j < q.length
 ·have hg : q[j]? = some q[j] := by simp [hlt]
  generalize q[j] = a at hg
  have hle := catD_le hg
  have hneg : decide (((catD (q.take j)).length : Int) + (a.2.length : Int) < 0) = false := decide_eq_false (by omega)
  have hadd : vBin none .add (.int .i64 (catD (q.take j)).length) (.int .i64 (len a)) = some (.int .i64 ((catD (q.take j)).length + (a.2.length : Int))) := vBin_add _ (by unfold len; omega) (by unfold len; omega)
  have hadd1 : vBin none .add (.int .i64 j) (.int .i64 1) = some (.int .i64 (j + 1 : Nat)) := vBin_add _ (by omega) (by omega)
  simp only [hlt,lt_len' hlt,decide_true,encSlots.index hg,encSlots.part,sl_len,hadd,hadd1,hneg,zz,Nat.reduceEqDiff]
  refine next _ _ hlt ⟨?_,rfl⟩
  rw [catD_succ hg,List.length_append]
  rfl
 obtain rfl : j = q.length := by omega
 have ht : (q.take q.length) = q := List.take_length
 simp only [Nat.lt_irrefl,not_lt_len',decide_false,ht,zz,Nat.reduceEqDiff]
 clear next Φ
 by_cases hz : (catD q).length = 0
 ·have hz' : ((catD q).length : Int) = 0 := by omega
  have hz2 : catD q = [] := List.eq_nil_of_length_eq_zero hz
  rw [hz']
  rw [hz2] at hR
  refine (c276_zero _).callB ?_
  simp only [List.length_map,zz,Nat.reduceEqDiff]
  refine Lfp_up q.length (fun j x τ' => x = lookP [(6,.list .nil []),(25,.list .full (q.map (pvSl pvSlot))),(26,.int .i64 q.length),(27,.int .i64 j)] ∧ τ' = τ) ?_ ⟨rfl,rfl⟩
  rintro Φ j x τ' hj ⟨rfl,rfl⟩ next
  by_cases hlt : j < q.length
  ·have hg : q[j]? = some q[j] := by simp [hlt]
   generalize q[j] = a at hg
   have hle := catD_le hg
   have ha : a.2 = [] := List.eq_nil_of_length_eq_zero (by omega)
   have e1 : vAppend 5 40 (.list .nil []) (pvSl pvSlot a) τ' = some (.list .nil [],τ') := by
    unfold pvSl
    rw [ha]
    rfl
   have hadd1 : vBin none .add (.int .i64 j) (.int .i64 1) = some (.int .i64 (j + 1 : Nat)) := vBin_add _ (by omega) (by omega)
   simp only [hlt,lt_len' hlt,decide_true,encSlots.index hg,encSlots.part,e1,hadd1,zz,Nat.reduceEqDiff]
   exact next _ _ hlt ⟨rfl,rfl⟩
  ·obtain rfl : j = q.length := by omega
   simp only [Nat.lt_irrefl,not_lt_len',decide_false,zz,Nat.reduceEqDiff]
   exact weakW_keep hR
 have h0 : 0 < (catD q).length := by omega
 refine c276 h0 (by omega) _ _ ?_
 simp only [List.length_map,zz,Nat.reduceEqDiff]
 refine Lfp_up q.length (fun j x τ' => x = lookP [(6,.sref τ.length 0 5 0 (catD (q.take j)).length),(25,.list .full (q.map (pvSl pvSlot))),(26,.int .i64 q.length),(27,.int .i64 j)] ∧
  τ' = τ ++ [.arr 0 5 ((catD (q.take j)).map pvSlot ++ List.replicate ((catD q).length - (catD (q.take j)).length) z5)]) ?_ ⟨rfl,by simp [catD]⟩
 rintro Φ j x τ' hj ⟨rfl,rfl⟩ next
 by_cases hlt : j < q.length
 ·have hg : q[j]? = some q[j] := by simp [hlt]
  generalize q[j] = a at hg
  have hle := catD_le hg
  have hadd1 : vBin none .add (.int .i64 j) (.int .i64 1) = some (.int .i64 (j + 1 : Nat)) := vBin_add _ (by omega) (by omega)
  have e1 : vAppend 5 40 (.sref τ.length 0 5 0 (catD (q.take j)).length) (pvSl pvSlot a) (τ ++ [.arr 0 5 ((catD (q.take j)).map pvSlot ++ List.replicate ((catD q).length - (catD (q.take j)).length) z5)]) =
    some (.sref τ.length 0 5 0 (catD (q.take (j + 1))).length,τ ++ [.arr 0 5 ((catD (q.take (j + 1))).map pvSlot ++ List.replicate ((catD q).length - (catD (q.take (j + 1))).length) z5)]) := by
   rw [catD_succ hg]
   generalize catD (q.take j) = d at hle
   unfold pvSl
   simp only [vAppend,vElems]
   cases ha : a.2 with
   | nil => simp
   | cons s ss =>
    rw [ha] at hle
    have hr : roomy (d.length + ((s :: ss).map pvSlot).length) 40 = true := by
     simp only [roomy,List.length_map,decide_eq_true_eq]
     omega
    have hr' : roomy (d.length + (ss.length + 1)) 40 = true := by simpa using hr
    have hh : headSized 5 ((s :: ss).map pvSlot) = true := rfl
    have hlen : (d.map pvSlot ++ List.replicate ((catD q).length - d.length) z5).length = (catD q).length := by
     simp
     omega
    simp only [new_get,hr,hh,hlen,List.length_map,Nat.zero_add]
    have hc1 : d.length ≤ (catD q).length := by omega
    have hc2 : d.length + (s :: ss).length ≤ (catD q).length := hle
    simp only [hc1,hc2,and_self,if_true]
    simp only [List.map_cons,List.isEmpty_cons,Bool.false_eq_true,if_false]
    simp
    refine ⟨hr',?_⟩
    rw [List.drop_append,List.drop_eq_nil_of_le (by simp)]
    simp
    omega
  simp only [hlt,lt_len' hlt,decide_true,encSlots.index hg,encSlots.part,e1,hadd1,zz,Nat.reduceEqDiff]
  exact next _ _ hlt ⟨rfl,rfl⟩
 ·obtain rfl : j = q.length := by omega
  simp only [Nat.lt_irrefl,not_lt_len',decide_false,ht,zz,Nat.reduceEqDiff]
  simp only [Nat.sub_self,List.replicate_zero,List.append_nil]
  have hgrow : Grow τ.length 5 (τ ++ [.arr 0 5 ((catD q).map pvSlot)]) (.sref τ.length 0 5 0 (catD q).length) ((catD q).map pvSlot) :=
   .inr ⟨τ.length,0,Nat.le_refl _,by simp,by simp,by simpa using (by intro e; rw [e] at h0; cases h0)⟩
  refine weakW_clean (List.prefix_append _ _) (hgrow.frz fun y hy => ?_) hR
  obtain ⟨s,_,rfl⟩ := List.mem_map.1 hy
  exact .base _ (under_slot _ s)
theorem slot_neq (s t : SlotS) : vBin (some (.st [.int,.int,.int,.int,.bool])) .neq (pvSlot s) (pvSlot t) = some (.bool (!decide (s = t))) := by
 obtain ⟨a,b,c,d,e⟩ := s
 obtain ⟨a',b',c',d',e'⟩ := t
 have h : vEqL [.int,.int,.int,.int,.bool] [.int .i64 a,.int .i64 b,.int .i64 c,.int .i64 d,.bool e] [.int .i64 a',.int .i64 b',.int .i64 c',.int .i64 d',.bool e'] = some (decide ((⟨a,b,c,d,e⟩ : SlotS) = ⟨a',b',c',d',e'⟩)) := by
  simp only [vEqL,vEqS,SlotS.mk.injEq]
  grind
 simp only [vBin,pvSlot,vEq,h,Option.map_some]
theorem c226 {k k' : LK} {A B : List SlotS} (hA : A.length ≤ 3145728) (σ : St) : Ret W 226 [.list k (A.map pvSlot),.list k' (B.map pvSlot)] σ (.bool (decide (A = B))) := by
 refine ret_of fun R hR => ?_
 rw [fn226_eq]
 delta fn226 bF kF nI
 simp only [List.length_map,zz,Nat.reduceEqDiff]
 by_cases hl : A.length = B.length
 case neg =>
  have hne : A ≠ B := fun e => hl (by rw [e])
  rw [decide_eq_false hne] at hR
  have : ((A.length : Int) != (B.length : Int)) = true := by simp; omega
  simp only [this,zz,Nat.reduceEqDiff]
  exact weakW_keep hR
 have : ((A.length : Int) != (B.length : Int)) = false := by simp; omega
 simp only [this,zz,Nat.reduceEqDiff]
 refine Lfp_up A.length (fun j x τ => x = lookP [(0,.list k (A.map pvSlot)),(1,.list k' (B.map pvSlot)),(12,.int .i64 A.length),(13,.int .i64 j)] ∧ τ = σ ∧ A.take j = B.take j) ?_ ⟨rfl,rfl,rfl⟩
 rintro Φ j x τ hj ⟨rfl,rfl,he⟩ next
 by_cases hlt : j < A.length
 ·have hg : A[j]? = some A[j] := by simp [hlt]
  have hg' : B[j]? = some (B[j]'(by omega)) := by simp [hl ▸ hlt]
  generalize A[j] = s at hg
  generalize B[j]'(by omega) = t at hg'
  have hadd1 : vBin none .add (.int .i64 j) (.int .i64 1) = some (.int .i64 (j + 1 : Nat)) := vBin_add _ (by omega) (by omega)
  have p1 : vPart true 5 (pvSlot s) 0 = some (pvSlot s) := rfl
  have p2 : vPart true 5 (pvSlot t) 0 = some (pvSlot t) := rfl
  simp only [hlt,lt_len' hlt,decide_true,encSlot.index hg,encSlot.index hg',p1,p2,slot_neq,hadd1,zz,Nat.reduceEqDiff]
  refine condB (fun hb => ?_) (fun hb => ?_)
  ·have hst : s ≠ t := by simpa using hb
   have hne : A ≠ B := fun e => hst (by rw [e,hg'] at hg; exact (Option.some.inj hg).symm)
   rw [decide_eq_false hne] at hR
   exact weakW_keep hR
  ·have hst : s = t := by simpa using hb
   refine next _ _ hlt ⟨rfl,rfl,?_⟩
   rw [List.take_add_one,List.take_add_one,he,hg,hg',hst]
 ·obtain rfl : j = A.length := by omega
  have hAB : A = B := by
   rw [List.take_length,hl,List.take_length] at he
   exact he
  rw [decide_eq_true hAB] at hR
  simp only [Nat.lt_irrefl,not_lt_len',decide_false,zz,Nat.reduceEqDiff]
  exact weakW_keep hR
theorem idxI {α : Type} {enc : α → PV} {ag : Bool} {sz : Nat} (E : EncOk enc ag sz) (d : α) {l : Sl α} {i : Int} (h0 : 0 ≤ i) (h1 : i < len l) : vIndex sz (pvSl enc l) (.int .i64 i) = some (.eptr (enc (atI d l i)) 0) := by
 obtain ⟨n,rfl⟩ := Int.eq_ofNat_of_zero_le h0
 refine sl_idx E ?_
 have hn : n < l.2.length := by unfold len at h1; omega
 simp [atI,List.getD_eq_getElem?_getD,hn]
theorem rout_parts (r : RoutS) : vPart false 1 (pvRout r) 0 = some (.int .i64 r.sig) ∧ vPart false 1 (pvRout r) 1 = some (.int .i64 r.frame) ∧ vPart false 1 (pvRout r) 2 = some (.int .i64 r.fr) ∧ vPart false 1 (pvRout r) 3 = some (.int .i64 r.to) ∧ vPart false 1 (pvRout r) 4 = some (.int .i64 r.outer) ∧
  vPart false 1 (pvRout r) 5 = some (.int .i64 r.within) ∧ vPart false 1 (pvRout r) 6 = some (.int .i64 r.level) ∧ vPart false 1 (pvRout r) 7 = some (.int .i64 r.needs) ∧ vPart false 1 (pvRout r) 8 = some (pvSl pvRange r.ranges) :=
 ⟨rfl,rfl,rfl,rfl,rfl,rfl,rfl,rfl,rfl⟩
def pvPair (p : Int × Bool) : PV := .tuple [.int .i64 p.1,.bool p.2]
def outerR (c : CodeS) (r n : Int) : Int × Bool := if n < 0 then (0,false) else if furS c n.toNat r < 0 then (0,false) else (furS c n.toNat r,true)
theorem c227 {c : CodeS} {i : Nat} (ho : OutOk c i) (hi : (i : Int) < len c.routs) (a b : Int) {r n : Int} (h0 : 0 ≤ r) (h1 : r ≤ i) (hn : n < 9223372036854775808) (σ : St) : Ret W 227 [pvChk c a b,.int .i64 r,.int .i64 n] σ (pvPair (outerR c r n)) := by
 refine ret_of fun R hR => ?_
 rw [fn227_eq]
 delta fn227 bF pF kF nI
 simp only [chk_parts,zz,Nat.reduceEqDiff]
 unfold outerR at hR
 refine condB (fun hb => ?_) (fun hb => ?_)
 ·simp only [decide_eq_true_eq] at hb
  rw [if_pos hb] at hR
  exact weakW_keep hR
 simp only [decide_eq_false_iff_not] at hb
 rw [if_neg hb] at hR
 obtain ⟨m,rfl⟩ := Int.eq_ofNat_of_zero_le (Int.not_lt.1 hb)
 rw [Int.toNat_natCast] at hR
 generalize hF : furS c m r = F at hR
 refine CutW_by (fun x τ => x 1 = .int .i64 F ∧ 0 ≤ F ∧ τ = σ) (fun x τ hx => ?_) ?_
 ·obtain ⟨h1,h2,rfl⟩ := hx
  rw [if_neg (by omega)] at hR
  simp only [h1]
  exact weakW_keep hR
 refine Lfp_down (fun m x τ => ∃ r : Int,0 ≤ r ∧ r ≤ i ∧ m < 9223372036854775808 ∧ x = lookP [(1,.int .i64 r),(2,.int .i64 m),(3,pvChk c a b)] ∧ τ = σ ∧ furS c m r = F) ?_ m ⟨r,h0,h1,by omega,rfl,rfl,hF⟩
 rintro Φ m x τ ⟨r,h0,h1,hm,rfl,rfl,hF⟩ next _
 simp only [chk_parts,zz,Nat.reduceEqDiff]
 cases m with
 | zero =>
  simp only [furS] at hF
  have e : decide (((0 : Nat) : Int) > 0) = false := rfl
  simp only [e,zz,Nat.reduceEqDiff]
  exact ⟨by rw [hF],by omega,trivial⟩
 | succ m =>
  have e : decide (((m + 1 : Nat) : Int) > 0) = true := decide_eq_true (by omega)
  have hk := ho r.toNat (by omega)
  rw [Int.toNat_of_nonneg h0] at hk
  have hix : vIndex 9 (pvSl pvRout c.routs) (.int .i64 r) = some (.eptr (pvRout (rAt c r)) 0) := idxI encRout zRout h0 (by omega)
  have h2 : ¬ r < 0 := by omega
  simp only [furS,h2,if_false] at hF
  simp only [e,hix,fldE,rout_parts,zz,Nat.reduceEqDiff,Nat.reduceAdd]
  refine condB (fun hb => ?_) (fun hb => ?_)
  ·simp only [decide_eq_true_eq] at hb
   rw [furS_neg c hb] at hF
   rw [if_pos (by omega)] at hR
   exact weakW_keep hR
  ·simp only [decide_eq_false_iff_not] at hb
   rw [vBin_sub _ (by omega) (by omega)]
   simp only [zz,Nat.reduceEqDiff]
   refine next _ _ m (by omega) ⟨(rAt c r).outer,by omega,by omega,by omega,?_,rfl,hF⟩
   congr 4
   simp
end Go.Proofs.YtgghfcchanilpaaGreatDoor
